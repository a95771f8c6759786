/- What functions of the program compute; no further conditions. -/
import Derived.Test.YtjgmfjneajcbmaaGreatF15
set_option linter.unusedVariables false
set_option linter.unusedSimpArgs false
open List (getElem?_eq_getElem getElem?_set_ne head?_drop length_append length_cons map_append map_replicate map_set map_take mem_cons mem_of_getElem? mem_singleton take_length)
open Nat (add_zero le_refl le_trans lt_or_ge mul_one sub_self)
open Bool (and_eq_true)
open Go.Proofs Go.RowKit Go.IntWalk
set_option maxHeartbeats 8000000
set_option maxRecDepth 100000
namespace Go.Ev
attribute [local go_sem] evBin AV.cells AV.ok frzB Av BG bndO bnd evEq eqCells not_false_eq_true not_true_eq_false Af Array.size_empty
section
attribute [local go_sem] length_append map_append tySzE head?_drop mul_one AR AY AP AS AT Ad
section
variable {ins:List Ins}{first:List Nat}{size:Nat}{P P':Nat->Prop}{D C:Nat}{a:Lay2}{c:CS}{H H':List MB}
theorem DI.frame (h:DI ins first size P D C a c H) (hl:H.length<=H'.length) (hs:∀ i,¬ P i->i<H.length->H'[i]?=H[i]?):DI ins first size P D C a c H':=by
 have old:∀ {i:Nat}{x:MB},¬ P i->H[i]?=some x->H'[i]?=some x:=fun {i x} hp hx=>by rw[hs i hp (List.getElem?_eq_some_iff.1 hx).1];exact hx
 obtain⟨es,hC,hes,hce⟩:=h.cache;refine⟨old h.lo.2.1.1 h.d,⟨fun i hi=>Nat.lt_of_lt_of_le (h.lo.1 i hi) hl,h.lo.2⟩,⟨es,old h.lo.2.1.2 hC,hes,hce⟩,fun t l f ht=>?_,fun q l hq=>?_,h.small⟩
 ·obtain⟨b,m,c1,c2⟩:=h.st t l f ht;exact⟨b,m,old (h.lo.2.2.1 t _ ht) c1,c2⟩
 ·obtain⟨es',d1,d2⟩:=h.nx q l hq;exact⟨es',old (h.lo.2.2.2 q _ hq) d1,d2⟩
theorem DI.push (h:DI ins first size P D C a c H) (K:List MB):DI ins first size P D C a c (H++K):=
 h.frame (by simp) (fun i _ hi=>List.getElem?_append_left hi)
theorem DI.repro (h:DI ins first size P D C a c H) (hl:∀ i,P' i->i<H.length) (hn:∀ i,P' i->i≠D/\i≠C/\a.st i=none/\a.nx i=none):DI ins first size P' D C a c H:=
 ⟨h.d,⟨hl,⟨fun hp=>(hn D hp).1 rfl,fun hp=>(hn C hp).2.1 rfl⟩,fun i x hx hp=>(by rw[(hn i hp).2.2.1]at hx;cases hx),fun i x hx hp=>(by rw[(hn i hp).2.2.2]at hx;cases hx)⟩,h.cache,h.st,h.nx,h.small⟩
theorem DI.off (h:DI ins first size P D C a c H) {i:Nat} (hi:P i):i≠D/\i≠C/\a.st i=none/\a.nx i=none:=by
 refine⟨fun e=>h.lo.2.1.1 (e ▸ hi),fun e=>h.lo.2.1.2 (e ▸ hi),?_,?_⟩
 ·cases hx:a.st i with
  | none=>rfl
  | some x=>exact absurd hi (h.lo.2.2.1 i x hx)
 ·cases hx:a.nx i with
  | none=>rfl
  | some x=>exact absurd hi (h.lo.2.2.2 i x hx)
theorem DI.new (h:DI ins first size P D C a c H) {i:Nat} (hi:H.length<=i):i≠D/\i≠C/\a.st i=none/\a.nx i=none:=by
 obtain⟨es,hC,_⟩:=h.cache;have hDl:=(List.getElem?_eq_some_iff.1 h.d).1;have hCl:=(List.getElem?_eq_some_iff.1 hC).1;refine⟨by omega,by omega,?_,?_⟩
 ·cases hx:a.st i with
  | none=>rfl
  | some x=>have:=(h.st_at hx).1;omega
 ·cases hx:a.nx i with
  | none=>rfl
  | some x=>have:=(h.nx_at hx).1;omega
end
structure FR (RD LB LB':Nat) (H H':List MB):Prop where
 lb:LB' = LB∨H.length<=LB'
 len:H.length<=H'.length
 same:∀ i,i≠RD->i≠LB->i<H.length->H'[i]?=H[i]?
theorem FR.refl (RD LB:Nat) (H:List MB):FR RD LB LB H H:=⟨.inl rfl,le_refl _,fun _ _ _ _=>rfl⟩
theorem FR.trans {RD LB LB1 LB2:Nat}{H H1 H2:List MB} (h:FR RD LB LB1 H H1) (h2:FR RD LB1 LB2 H1 H2):FR RD LB LB2 H H2:=by
 refine⟨?_,le_trans h.len h2.len,fun i i1 i2 i3=>?_⟩
 ·rcases h2.lb with e|e
  ·rw[e];exact h.lb
  ·exact .inr (le_trans h.len e)
 ·have:i≠LB1:=by
   rcases h.lb with e|e
   ·rw[e];exact i2
   ·omega
  rw[h2.same i i1 this (Nat.lt_of_lt_of_le i3 h.len),h.same i i1 i2 i3]
end
section
attribute [local go_sem] evAppend tySzE head?_drop mul_one AR AY AP AS AT Ad
def endsL (ins:List Ins) (first:List Nat) (xs:List Int):List Int:=(List.range (xs.length+1)).map fun p=>runL ins (xs.drop p) p first (-1)
def endsC (ins:List Ins) (size:Nat) (first:List Nat) (xs:List Int) (c:CS):Nat->CS
 | 0=>c
 | n+1=>runC ins size (xs.drop n) first ((endsC ins size first xs c n).need size first)
theorem IQ (ins:List Ins) (size:Nat):∀(xs:List Int) (l:List Nat) (c:CS),(runC ins size xs l c).made<=c.made+xs.length
 | xs,l,c=>by
   by_cases hl:l=[]
   ·subst hl;rw[KB];omega
   ·cases xs with
    | nil=>simp[runC,hl]
    | cons x xs=>
      simp only[runC,if_neg hl];have h1:=IQ ins size xs (nextL ins l x) (c.need size (nextL ins l x));have h2:=CS.need_made c size (nextL ins l x);simp only[length_cons];omega
theorem HT (ins:List Ins) (size:Nat) (first:List Nat) (xs:List Int) (c:CS):∀ n,(endsC ins size first xs c n).made<=c.made+n*(xs.length+1)
 | 0=>by simp[endsC]
 | n+1=>by
   have h1:=HT ins size first xs c n
   have h2:=IQ ins size (xs.drop n) first ((endsC ins size first xs c n).need size first)
   have h3:=CS.need_made (endsC ins size first xs c n) size first
   rw[List.length_drop]at h2;simp only[endsC];rw[Nat.succ_mul];omega
theorem Om {l:List Int}{N n:Nat}{v:Int} (hl:l.length=N) (h:n<N) (hv:l[n]?=some v):(l.take n++List.replicate (N-n) 0).set n v=l.take (n+1)++List.replicate (N-(n+1)) 0:=by
 have ht:(l.take n).length=n:=by rw[List.length_take];omega
 rw[List.set_append_right _ _ (by omega),ht,sub_self,List.take_add_one,hv];obtain⟨m,hm⟩:∃ m,N-n=m+1:=⟨N-n-1,by omega⟩;rw[hm,show N-(n+1)=m by omega];simp[List.replicate_succ]
theorem QD {l:List Int}{N n:Nat} (hl:l.length=N) (h:n<N):(l.take n++List.replicate (N-n) 0)[n]?=some 0:=by
 have ht:(l.take n).length=n:=by rw[List.length_take];omega
 rw[List.getElem?_append_right (by omega),ht,sub_self,List.getElem?_replicate,if_pos (by omega)]
theorem On {l:List Int}{N n:Nat} (hl:l.length=N) (h:n<=N):(l.take n++List.replicate (N-n) 0).length=N:=by
 rw[length_append,List.length_take,List.length_replicate];omega
theorem Ir (ins:List Ins) (first:List Nat) (xs:List Int):(endsL ins first xs).length=xs.length+1:=by simp[endsL]
theorem Kt (ins:List Ins) (first:List Nat) (xs:List Int) {n:Nat} (h:n<xs.length+1):(endsL ins first xs)[n]?=some (runL ins (xs.drop n) n first (-1)):=by simp[endsL,h]
structure ES where
 n:Nat
 H:List MB
 a:Lay2
theorem ST {ins:List Ins}{first:List Nat}{size:Nat}{P:Nat->Prop}{D C:Nat}{a:Lay2}{c:CS}{H:List MB} (hi:DI ins first size P D C a c H) (ho:InsOk ins) (hf1:∀ n∈first,n<ins.length) (hf2:first.length<=ins.length) (xs:List Int) (hx:xs.length<=65536) (hmd:c.made+5000000000<=4000000000000) :
  ∃ r,(∃ H' a',r=(AV.tup [.sl false ((endsL ins first xs).map I),I 0],H')/\DI ins first size P D C a' (endsC ins size first xs c (xs.length+1)) H'/\KeepsLow P H H')/\call Pg pol1 20 [.rf D 1 0 0,.sl false (xs.map I)] H=some r:=by
 have rp:∀ H1 r H,retPol pol1 20 H1 r H=some (r,H):=fun H1 r H=>rfl;have hel:=Ir ins first xs
 have hpx:AV.plain (.sl false (xs.map I))=true:=by simp[AV.plain,AG]
 refine CJ (pol:=pol1) Tryz.func20 rfl rfl rfl rfl (AL _ _ _ (by simp only[mixOk,hpx,Bool.or_true,Bool.true_and];rfl)) ?_;simp +contextual (disch:=omega) only[Tryz.f20,dd20,go_sem,↓reduceIte,List.reduceReplicate,Nat.reduceAdd,Nat.reduceSub,reduceCtorEq,Nat.reduceLeDiff,Nat.reduceMul,Nat.reduceLT,Nat.reduceEqDiff,Int.reduceBNe,Int.reduceBEq,Int.reduceEq,Int.reduceLT,Int.reduceLE,Int.reduceGT,Int.reduceGE,length_append,map_append,mu20,Nat.reduceBEq,↓AD,↓AC,↓AB,↓AA,Int.reduceToNat];have hi1:DI ins first size (fun i=>P i∨i=H.length) D C a c (H++[.row 1 (List.replicate (xs.length+1) (I 0)) 0]):=
  (hi.push _).repro (fun i hp=>by
    rw[length_append];rcases hp with hp|hp
    ·have:=hi.lo.1 i hp;omega
    ·rw[hp];simp) (fun i hp=>by
    rcases hp with hp|hp
    ·exact hi.off hp
    ·exact hi.new (by omega))
 refine Dk (σ:=ES) (M:=(mskOf (pol1.mask 20) (pol1.gc 20) (pol1.acts 20) H.length 5)) rfl (fun x=>(⟨29,[(17,I x.n),(16,I (xs.length+1:Nat)),(6,.ms H.length 1 (xs.length+1) 0 (xs.length+1)),(1,.sl false (xs.map I)),(0,.rf D 1 0 0)],x.H⟩:St))
  (fun x=>x.n<=xs.length+1/\DI ins first size (fun i=>P i∨i=H.length) D C x.a (endsC ins size first xs c x.n) x.H/\x.H[H.length]?=some (.row 1 (((endsL ins first xs).take x.n++List.replicate (xs.length+1-x.n) 0).map I) 0)/\KeepsLow P H x.H)
  (fun x=>xs.length+1-x.n) ⟨0,H++[MB.row 1 (List.replicate (xs.length+1) (I 0)) 0],a⟩ ?_ ⟨Nat.zero_le _,hi1,by simp,⟨by simp,fun i hp=>List.getElem?_append_left (hi.lo.1 i hp)⟩⟩ _ ?_
 ·rintro⟨n,H1,a1⟩ ⟨q1,q2,q3,q4⟩;simp only at q1 q2 q3 q4 |-;have hmd1:=HT ins size first xs c n
  have hmul:n*(xs.length+1)<=65537*65537:=Nat.mul_le_mul (by omega) (by omega);by_cases hn:n<xs.length+1
  ·obtain⟨_,⟨H2,a2,rfl,d2,le2,low2⟩,hc⟩:=kf31 q2 ho hf1 hf2 xs (by omega) n (by omega) (by omega);have hE:H2[H.length]?=_:=(low2.2 H.length (.inr rfl)).trans q3;have hat:=Kt ins first xs hn
   have h1:=QD hel hn;have h2:=Om hel hn hat;have h3:=On hel (n:=n) (by omega);have h1':(((endsL ins first xs).take n++List.replicate (xs.length+1-n) 0).map I)[n]?=some (I 0):=by rw[List.getElem?_map,h1];rfl
   have h2':(((endsL ins first xs).take n++List.replicate (xs.length+1-n) 0).map I).set n (I (runL ins (xs.drop n) n first (-1)))=((endsL ins first xs).take (n+1)++List.replicate (xs.length+1-(n+1)) 0).map I:=by rw[<- h2,map_set]
   have h3':(((endsL ins first xs).take n++List.replicate (xs.length+1-n) 0).map I).length=xs.length+1:=by rw[List.length_map,h3]
   generalize ((endsL ins first xs).take n++List.replicate (xs.length+1-n) 0).map I=E at *;have hlt:=(List.getElem?_eq_some_iff.1 hE).1;simp +contextual (disch:=omega) only[Tryz.f20,dd20,go_sem,↓reduceIte,List.reduceReplicate,Nat.reduceAdd,Nat.reduceSub,reduceCtorEq,Nat.reduceLeDiff,Nat.reduceMul,Nat.reduceLT,Nat.reduceEqDiff,Int.reduceBNe,Int.reduceBEq,Int.reduceEq,Int.reduceLT,Int.reduceLE,Int.reduceGT,Int.reduceGE,mu20,Nat.reduceBEq,↓AD,↓AC,↓AB,↓AA,Int.reduceToNat,hc,hE,h1',h2',h3'];refine⟨⟨n+1,H2.set H.length (.row 1 (((endsL ins first xs).take (n+1)++List.replicate (xs.length+1-(n+1)) 0).map I) 0),a2⟩,⟨by show n+1<=_;omega,d2.frame (by simp) (fun i hp hi=>getElem?_set_ne (fun e=>hp (.inr e.symm))),List.getElem?_set_self hlt,⟨by rw[List.length_set];exact le_trans q4.1 low2.1,fun i hp=>?_⟩⟩,by show xs.length+1-(n+1)<xs.length+1-n;omega,rfl⟩;rw[getElem?_set_ne (by have:=hi.lo.1 i hp;omega),low2.2 i (.inl hp)];exact q4.2 i hp
  ·obtain rfl:n=xs.length+1:=by omega
   rw[List.take_of_length_le (by omega),sub_self,List.replicate_zero,List.append_nil]at q3;have hlt:=(List.getElem?_eq_some_iff.1 q3).1;have hrow:getRow H1 H.length=some (1,(endsL ins first xs).map I,0):=by unfold getRow;rw[q3]
   have hfz:=De (tot:=xs.length+1) hrow (by rw[List.length_map];exact hel) (AG _);have hm:mark H1 H.length (xs.length+1)=H1.set H.length (.row 1 ((endsL ins first xs).map I) (xs.length+1)):=by
    unfold mark;rw[hrow];simp
   rw[hm]at hfz;simp +contextual (disch:=omega) only[Tryz.f20,dd20,go_sem,↓reduceIte,List.reduceReplicate,Nat.reduceAdd,Nat.reduceSub,reduceCtorEq,Nat.reduceLeDiff,Nat.reduceMul,Nat.reduceLT,Nat.reduceEqDiff,Int.reduceBNe,Int.reduceBEq,Int.reduceEq,Int.reduceLT,Int.reduceLE,Int.reduceGT,Int.reduceGE,length_append,map_append,mu20,Nat.reduceBEq,↓AD,↓AC,↓AB,↓AA,Int.reduceToNat,hfz];refine⟨_,⟨H1.set H.length (.row 1 ((endsL ins first xs).map I) (xs.length+1)),a1,rfl,?_,⟨by rw[List.length_set];exact q4.1,fun i hp=>?_⟩⟩,rp _ _ _⟩
   ·have d3:=q2.frame (H':=H1.set H.length (.row 1 ((endsL ins first xs).map I) (xs.length+1))) (by simp) (fun i hp hi=>getElem?_set_ne (fun e=>hp (.inr e.symm)));exact d3.repro (fun i hp=>d3.lo.1 i (.inl hp)) (fun i hp=>d3.off (.inl hp))
   ·rw[getElem?_set_ne (by have:=hi.lo.1 i hp;omega)];exact q4.2 i hp
 ·simp only[List.take_zero,List.nil_append,Nat.sub_zero,map_replicate];rfl
end
section
attribute [local go_sem] evAppend length_append map_append tySzE head?_drop mul_one AR AY AP AS AT Ad
def needs (size:Nat) (c:CS) (S:List (List Nat)):CS:=S.foldl (fun c s=>c.need size s) c
structure FullI (R:List (List Nat)) (c:CS):Prop where
 nodup:c.L.Nodup
 sub:∀ l∈c.L,l∈R
 made:c.made=c.L.length
 emp:c.emptied=0
theorem PX {R L:List (List Nat)} (h:L.Nodup) (hs:∀ l∈L,l∈R):L.length<=R.length:=List.Nodup.length_le_of_subset h hs
theorem FullI.need {R:List (List Nat)}{c:CS} (h:FullI R c) {s:List Nat} (hs:s=[]∨s∈R):FullI R (c.need R.length s)/\((c.need R.length s).L=if s=[]∨s∈c.L then c.L else c.L++[s]):=by
 unfold CS.need;by_cases h0:s=[]
 ·rw[if_pos h0,if_pos (.inl h0)];exact⟨h,rfl⟩
 by_cases h1:s∈c.L
 ·rw[if_neg h0,if_pos h1,if_pos (.inr h1)];exact⟨h,rfl⟩
 have hR:s∈R:=hs.resolve_left h0;have hnd:(c.L++[s]).Nodup:=List.nodup_append.2 ⟨h.nodup,by simp,fun a ha b hb e=>h1 (by rw[<- mem_singleton.1 hb,<- e];exact ha)⟩;have hsub:∀ l∈c.L++[s],l∈R:=fun l hl=>by
  rcases List.mem_append.1 hl with h2|h2
  ·exact h.sub l h2
  ·rw[mem_singleton.1 h2];exact hR
 have hlen:=PX hnd hsub;rw[length_append,List.length_singleton]at hlen;rw[if_neg h0,if_neg h1,if_neg (show ¬ c.L.length=R.length by omega),if_neg (show ¬ (s=[]∨s∈c.L) by rintro(h2|h2);exact h0 h2;exact h1 h2)];exact⟨⟨hnd,hsub,by simp[h.made],h.emp⟩,rfl⟩
structure Three (R:List (List Nat)) (f s o:CS):Prop where
 full:FullI R f
 sub:∀ l∈s.L,l∈f.L
 le:f.made<=s.made
 one:o.L.length<=1
 last:∀ l∈o.L,l∈s.L
 le2:s.made<=o.made
 emp:o.emptied+o.L.length=o.made
 ne:o.L=[]->o.made=0
theorem Three.zero (R:List (List Nat)):Three R ⟨[],0,0⟩ ⟨[],0,0⟩ ⟨[],0,0⟩:=
 ⟨⟨.nil,fun _ h=>(by cases h),rfl,rfl⟩,fun _ h=>(by cases h),le_refl _,by simp,fun _ h=>(by cases h),le_refl _,rfl,fun _=>rfl⟩
theorem Three.need {R:List (List Nat)}{f s o:CS} (h:Three R f s o) {k:Nat}{l:List Nat} (hl:l=[]∨l∈R):Three R (f.need R.length l) (s.need k l) (o.need 1 l):=by
 obtain⟨f1,f2⟩:=h.full.need hl;by_cases h0:l=[]
 ·subst h0;have e:∀(c:CS) n,c.need n []=c:=fun c n=>by simp[CS.need]
  rw[e,e,e];exact h
 have hs:(s.need k l).L=s.L/\l∈s.L/\(s.need k l).made=s.made∨l ∉ s.L/\((s.need k l).L=[l]∨(s.need k l).L=s.L++[l])/\(s.need k l).made=s.made+1:=by
  unfold CS.need;rw[if_neg h0];by_cases h1:l∈s.L
  ·rw[if_pos h1];exact .inl ⟨rfl,h1,rfl⟩
  ·rw[if_neg h1];split
   ·exact .inr ⟨h1,.inl rfl,rfl⟩
   ·exact .inr ⟨h1,.inr rfl,rfl⟩
 have ho:(o.need 1 l)=o/\l∈o.L∨l ∉ o.L/\(o.need 1 l).L=[l]/\(o.need 1 l).made=o.made+1/\(o.need 1 l).emptied=o.emptied+o.L.length:=by
  unfold CS.need;rw[if_neg h0];by_cases h1:l∈o.L
  ·rw[if_pos h1];exact .inl ⟨rfl,h1⟩
  ·rw[if_neg h1];have:=h.one;split
   ·rename_i h2;exact .inr ⟨h1,rfl,rfl,by simp[h2]⟩
   ·have h3:o.L=[]:=List.length_eq_zero_iff.1 (by omega);exact .inr ⟨h1,by simp[h3],rfl,by simp[h3]⟩
 have hfm:=f1.made;have hfL:=f2;have hfm0:=h.full.made;have hle:=h.le;have hle2:=h.le2;have hemp:=h.emp;have hin:l∈(f.need R.length l).L:=by
  rw[hfL];split
  ·rename_i h1;exact h1.resolve_left h0
  ·simp
 have hmono:∀ a∈f.L,a∈(f.need R.length l).L:=fun a ha=>by
  rw[hfL];split
  ·exact ha
  ·exact List.mem_append_left _ ha
 refine⟨f1,fun a ha=>?_,?_,?_,fun a ha=>?_,?_,?_,fun hz=>?_⟩
 ·rcases hs with ⟨e,_,_⟩|⟨_,e|e,_⟩
  ·rw[e]at ha;exact hmono a (h.sub a ha)
  ·rw[e]at ha;rw[mem_singleton.1 ha];exact hin
  ·rw[e]at ha;rcases List.mem_append.1 ha with h1|h1
   ·exact hmono a (h.sub a h1)
   ·rw[mem_singleton.1 h1];exact hin
 ·rw[hfm,hfL];rcases hs with ⟨_,h1,e⟩|⟨h1,_,e⟩
  ·rw[e,if_pos (.inr (h.sub l h1))];omega
  ·rw[e];split
   ·omega
   ·simp;omega
 ·rcases ho with ⟨e,_⟩|⟨_,e,_,_⟩
  ·rw[e];exact h.one
  ·rw[e];simp
 ·rcases ho with ⟨e,h1⟩|⟨_,e,_,_⟩
  ·rw[e]at ha;have h2:=h.last a ha;rcases hs with ⟨e2,_,_⟩|⟨h3,_,_⟩
   ·rw[e2];exact h2
   ·exact absurd (h.last l h1) h3
  ·rw[e]at ha;rw[mem_singleton.1 ha];rcases hs with ⟨e2,h3,_⟩|⟨_,e2|e2,_⟩
   ·rw[e2];exact h3
   ·rw[e2];simp
   ·rw[e2];simp
 ·rcases ho with ⟨e,h1⟩|⟨_,_,e,_⟩
  ·rw[e];rcases hs with ⟨_,_,e2⟩|⟨h3,_,_⟩
   ·rw[e2];exact hle2
   ·exact absurd (h.last l h1) h3
  ·rw[e];rcases hs with ⟨_,_,e2⟩|⟨_,_,e2⟩<;>rw[e2]<;>omega
 ·rcases ho with ⟨e,_⟩|⟨_,e1,e2,e3⟩
  ·rw[e];exact hemp
  ·rw[e1,e2,e3];simp;omega
 ·rcases ho with ⟨e,_⟩|⟨_,e1,_,_⟩
  ·rw[e]at hz |-;exact h.ne hz
  ·rw[e1]at hz;cases hz
theorem Three.needs {R:List (List Nat)}{k:Nat}:∀ {S:List (List Nat)}{f s o:CS},Three R f s o->(∀ l∈S,l=[]∨l∈R)->Three R (needs R.length f S) (Ev.needs k s S) (Ev.needs 1 o S)
 | [],f,s,o,h,_=>h
 | l::S,f,s,o,h,hS=>Three.needs (S:=S) (h.need (hS l (by simp))) (fun a ha=>hS a (by simp[ha]))
theorem FullI.keeps {R:List (List Nat)}:∀ {S:List (List Nat)}{c:CS},FullI R c->(∀ l∈S,l=[]∨l∈R)->(∀ l∈c.L,l∈(Ev.needs R.length c S).L)/\∀ l∈S,l≠[]->l∈(Ev.needs R.length c S).L
 | [],c,h,_=>⟨fun l hl=>hl,fun l hl=>by cases hl⟩
 | a::S,c,h,hS=>by
   obtain⟨h1,h2⟩:=h.need (hS a (by simp));obtain⟨k1,k2⟩:=FullI.keeps (S:=S) h1 (fun l hl=>hS l (by simp[hl]));have hk:∀ l∈c.L,l∈(c.need R.length a).L:=fun l hl=>by
    rw[h2];split
    ·exact hl
    ·exact List.mem_append_left _ hl
   refine⟨fun l hl=>k1 l (hk l hl),fun l hl h0=>?_⟩;rcases mem_cons.1 hl with rfl|hl
   ·refine k1 l ?_;rw[h2];split
    ·rename_i h3;exact h3.resolve_left h0
    ·simp
   ·exact k2 l hl h0
end
section
attribute [local go_sem] evAppend length_append map_append tySzE head?_drop mul_one AR AY AP AS AT Ad
theorem f102 (r:Bool) (H:List MB):call Pg pol1 80 [.bool r] H=some (I (if r then 1114111 else 255),H):=by
 cases r
 ·refine AX Tryz.func80 rfl rfl rfl rfl rfl rfl (fun _=>rfl) (by simp[AV.plain,AV.plainL,AG,AF,AI,AK]) (by simp[AV.plain,AV.plainL,AG,AF,AI,AK]) ?_ H;simp +contextual (disch:=omega) only[Tryz.f80,dd80,go_sem,simprocAttr,mu80,↓AD,↓AC,↓AB,↓AA];exact fzEq rfl rfl
 ·refine AX Tryz.func80 rfl rfl rfl rfl rfl rfl (fun _=>rfl) (by simp[AV.plain,AV.plainL,AG,AF,AI,AK]) (by simp[AV.plain,AV.plainL,AG,AF,AI,AK]) ?_ H;simp +contextual (disch:=omega) only[Tryz.f80,dd80,go_sem,simprocAttr,mu80,↓AD,↓AC,↓AB,↓AA];exact fzEq rfl rfl
theorem Mt {l:List (Int×Int)}{top:Int}{i:Nat}{p:Int×Int} (hp:l[i]?=some p) (h:p.1<0∨p.2<p.1∨top<p.2):badS l top i=true:=by
 simp only[badS,hp];rcases h with h|h|h<;>simp[h]
theorem I4 {l:List (Int×Int)}{top:Int}{p:Int×Int} (hp:l[0]?=some p) (h:¬ (p.1<0∨p.2<p.1∨top<p.2)):badS l top 0=false:=by
 have h1:¬ p.1<0:=fun e=>h (.inl e);have h2:¬ p.2<p.1:=fun e=>h (.inr (.inl e));have h3:¬ top<p.2:=fun e=>h (.inr (.inr e));simp[badS,hp,h1,h2,h3]
theorem I5 {l:List (Int×Int)}{top:Int}{i:Nat}{p q:Int×Int} (hp:l[i+1]?=some p) (hq:l[i]?=some q) (h:¬ (p.1<0∨p.2<p.1∨top<p.2)):badS l top (i+1)=decide (p.1<q.2+2):=by
 have h1:¬ p.1<0:=fun e=>h (.inl e);have h2:¬ p.2<p.1:=fun e=>h (.inr (.inl e));have h3:¬ top<p.2:=fun e=>h (.inr (.inr e));simp[badS,hp,hq,h1,h2,h3]
theorem Mu {l:List (Int×Int)}{top:Int}{i:Nat}{q:Int×Int} (hq:l[i]?=some q) (h:badS l top i=false):0<=q.1/\q.1<=q.2/\q.2<=top:=by
 simp only[badS,hq,Bool.or_eq_false_iff,decide_eq_false_iff_not]at h;omega
theorem f131 (l:List (Int×Int)) (top:Int) (ht:top<=1114111) (hl:l.length<=1000000) (H:List MB):call Pg pol1 106 [.sl false (l.map spanAV),I top] H=some (.bool (spansG l top),H):=by
 refine AX Tryz.func106 rfl rfl rfl rfl rfl rfl (fun _=>rfl) (by simp[AV.plain,AV.plainL,AF]) rfl ?_ H;by_cases h64:64<l.length
 ·rw[Fu h64];simp +contextual (disch:=omega) only[Tryz.f106,HV,go_sem,simprocAttr,G5,↓AD,↓AC,↓AB,↓AA];exact fzEq rfl rfl
 ·simp +contextual (disch:=omega) only[Tryz.f106,HV,go_sem,simprocAttr,G5,↓AD,↓AC,↓AB,↓AA];refine Ae (M:=(mskOf (pol1.mask 106) (pol1.gc 106) (pol1.acts 106) 0 4)) rfl l.length (fun i=>(⟨50,[(12,I i),(11,I l.length),(10,.sl false (l.map spanAV)),(1,I top),(0,.sl false (l.map spanAV))],[]⟩:St)) (fun i=>∀ k,k<i->badS l top k=false) ?_ ?_ (fun k h=>by omega) _ (by first|rfl|(refine Ar (n:=0) (m:=⟨some [12,11,10,1,0],some 0,[]⟩) rfl rfl ?_ ?_ ?_<;>first|rfl|(simp[keepT,AV.underL,AV.under,MB.under,AE,AH,AJ,AG,AF,AI,AK,-map_take,-map_replicate,-map_set];done)|(simp[keepT,AV.underL,AV.under,MB.under,AE,AH,AJ,AG,AF,AI,AK,-map_take,-map_replicate,-map_set];omega)))
  ·intro i hlt hg;obtain⟨p,hp⟩:∃ p,l[i]?=some p:=⟨_,getElem?_eq_getElem hlt⟩;have ext:badS l top i=false->∀ k,k<i+1->badS l top k=false:=fun h k hk=>by
    rcases lt_or_ge k i with h1|h1
    ·exact hg k h1
    ·obtain rfl:k=i:=by omega
     exact h
   by_cases hgd:p.1<0∨p.2<p.1∨top<p.2
   ·rw[DZ hlt (Mt hp hgd)];have hgd':p.1<0∨(¬ p.1<0/\p.2<p.1)∨(¬ p.1<0/\¬ p.2<p.1/\top<p.2):=by omega
    rcases hgd' with h|⟨h,h'⟩|⟨h,h',h''⟩
    all_goals (
     simp +contextual (disch:=omega) only[Tryz.f106,HV,go_sem,simprocAttr,G5,↓AD,↓AC,↓AB,↓AA,hp,spanAV];repeat' (first|intro _|apply And.intro|(unfold dOk;kernel_rfl)|(show (_||_)=true;kernel_rfl)|(show (_&&_)=true;kernel_rfl))
     all_goals exact fzEq rfl rfl)
   ·rcases i with _|i
    ·simp +contextual (disch:=omega) only[Tryz.f106,HV,go_sem,simprocAttr,G5,↓AD,↓AC,↓AB,↓AA,hp,spanAV];repeat' (first|intro _|apply And.intro|(unfold dOk;kernel_rfl)|(show (_||_)=true;kernel_rfl)|(show (_&&_)=true;kernel_rfl))
     ·exact ext (I4 hp hgd) _ ‹_›
     ·exact(by first|rfl|(refine Ar (n:=0) (m:=⟨some [12,11,10,1,0],some 0,[]⟩) rfl rfl ?_ ?_ ?_<;>first|rfl|(simp[keepT,AV.underL,AV.under,MB.under,AE,AH,AJ,AG,AF,AI,AK,-map_take,-map_replicate,-map_set];done)|(simp[keepT,AV.underL,AV.under,MB.under,AE,AH,AJ,AG,AF,AI,AK,-map_take,-map_replicate,-map_set];omega)))
    ·obtain⟨q,hq⟩:∃ q,l[i]?=some q:=⟨_,getElem?_eq_getElem (by omega)⟩;have hqb:=Mu hq (hg i (by omega));have hb:=I5 hp hq hgd;by_cases h2:p.1<q.2+2
     ·rw[DZ hlt (by rw[hb];simp[h2])];simp +contextual (disch:=omega) only[Tryz.f106,HV,go_sem,simprocAttr,G5,↓AD,↓AC,↓AB,↓AA,hp,hq,spanAV];repeat' (first|intro _|apply And.intro|(unfold dOk;kernel_rfl)|(show (_||_)=true;kernel_rfl)|(show (_&&_)=true;kernel_rfl))
      all_goals exact fzEq rfl rfl
     ·simp +contextual (disch:=omega) only[Tryz.f106,HV,go_sem,simprocAttr,G5,↓AD,↓AC,↓AB,↓AA,hp,hq,spanAV];repeat' (first|intro _|apply And.intro|(unfold dOk;kernel_rfl)|(show (_||_)=true;kernel_rfl)|(show (_&&_)=true;kernel_rfl))
      ·exact ext (by rw[hb];simp[h2]) _ ‹_›
      ·exact(by first|rfl|(refine Ar (n:=0) (m:=⟨some [12,11,10,1,0],some 0,[]⟩) rfl rfl ?_ ?_ ?_<;>first|rfl|(simp[keepT,AV.underL,AV.under,MB.under,AE,AH,AJ,AG,AF,AI,AK,-map_take,-map_replicate,-map_set];done)|(simp[keepT,AV.underL,AV.under,MB.under,AE,AH,AJ,AG,AF,AI,AK,-map_take,-map_replicate,-map_set];omega)))
  ·intro hg;rw[Fv (by omega) hg];simp +contextual (disch:=omega) only[Tryz.f106,HV,go_sem,simprocAttr,G5,↓AD,↓AC,↓AB,↓AA];exact fzEq rfl rfl
end
section
attribute [local go_sem] evAppend length_append map_append tySzE head?_drop mul_one AR AY AP AS AT Ad
abbrev nodeL (op:Int) (set:List (Int×Int)) (kids:List Re) (mn mx md n:Int) (neg:Bool):List AV:=[I op,.sl false (set.map spanAV),.sl false (kids.map reAV),I mn,I mx,I md,I n,.bool neg]
theorem f132 (op:Int) (set:List (Int×Int)) (kids:List Re) (mn mx md n:Int) (neg:Bool) (H:List MB):call Pg pol1 107 [.pt (nodeL op set kids mn mx md n neg)] H=some (.bool (repG mn mx md),H):=by
 refine AX Tryz.func107 rfl rfl rfl rfl rfl rfl (fun _=>rfl) (by simp[AV.plain,AV.plainL,AF,AN]) rfl ?_ H;by_cases h:mn<0∨32<mn∨md<0∨2<md
 ·have e:repG mn mx md=false:=by
   simp only[repG,Bool.and_eq_false_iff,decide_eq_false_iff_not];omega
  rw[e];have h':mn<0∨(¬ mn<0/\32<mn)∨(¬ mn<0/\¬ 32<mn/\md<0)∨(¬ mn<0/\¬ 32<mn/\¬ md<0/\2<md):=by omega
  rcases h' with h|⟨h,h1⟩|⟨h,h1,h2⟩|⟨h,h1,h2,h3⟩
  all_goals (
   simp +contextual (disch:=omega) only[Tryz.f107,Qg,go_sem,simprocAttr,QY,↓AD,↓AC,↓AB,↓AA];repeat' (first|intro _|apply And.intro|(unfold dOk;kernel_rfl)|(show (_||_)=true;kernel_rfl)|(show (_&&_)=true;kernel_rfl))
   all_goals exact fzEq rfl rfl)
 ·have e:repG mn mx md=(mx == -1||(decide (1<=mx)&&decide (mx<=32)&&decide (mn<=mx))):=by
   have h1:0<=mn:=by omega
   have h2:mn<=32:=by omega
   have h3:0<=md:=by omega
   have h4:md<=2:=by omega
   simp[repG,h1,h2,h3,h4]
  rw[e];simp +contextual (disch:=omega) only[Tryz.f107,Qg,go_sem,simprocAttr,QY,↓AD,↓AC,↓AB,↓AA];repeat' (first|intro _|apply And.intro|(unfold dOk;kernel_rfl)|(show (_||_)=true;kernel_rfl)|(show (_&&_)=true;kernel_rfl))
  all_goals (first|exact fzEq rfl rfl|refine fzEq rfl (congrArg AV.bool ?_))
  all_goals (rw[Bool.eq_iff_iff];simp<;>omega)
theorem f104 (caps top:Int) (ht:top<=1114111) (op:Int) (set:List (Int×Int)) (kids:List Re) (mn mx md n:Int) (neg:Bool) (hs:set.length<=1000000) (hk:kids.length<=1000000) (H:List MB) :
  call Pg pol1 82 [.pt (nodeL op set kids mn mx md n neg),I caps,I top] H=some (.bool (formedG caps top (.mk op set kids mn mx md n neg)),H):=by
 refine AX Tryz.func82 rfl rfl rfl rfl rfl rfl (fun _=>rfl) (by simp[AV.plain,AV.plainL,AF,AN]) rfl ?_ H;have h131:=f131 set top ht hs;have h132:=f132 op set kids mn mx md n neg;by_cases h0:op<0∨11<op
 ·have e:formedG caps top (.mk op set kids mn mx md n neg)=false:=by
   have:¬ (0<=op/\op<=11):=by omega
   simp only[formedG,Bool.and_eq_false_iff,decide_eq_false_iff_not];omega
  rw[e];simp +contextual (disch:=omega) only[Tryz.f82,dd82,go_sem,simprocAttr,mu82,↓AD,↓AC,↓AB,↓AA,h131,h132];repeat' (first|intro _|apply And.intro|(unfold dOk;kernel_rfl)|(show (_||_)=true;kernel_rfl)|(show (_&&_)=true;kernel_rfl))
  all_goals exact fzEq rfl rfl
 have hop:op=1∨op=4∨op=0∨op=2∨op=3∨op=5∨op=6∨op=7∨op=8∨op=9∨op=10∨op=11:=by omega
 clear h0;rcases hop with rfl|rfl|rfl|rfl|rfl|rfl|rfl|rfl|rfl|rfl|rfl|rfl
 ·cases hsp:spansG set top
  all_goals (
   rw[hsp]at h131;simp +contextual (disch:=omega) only[Tryz.f82,dd82,go_sem,simprocAttr,mu82,↓AD,↓AC,↓AB,↓AA,h131,h132];repeat' (first|intro _|apply And.intro|(unfold dOk;kernel_rfl)|(show (_||_)=true;kernel_rfl)|(show (_&&_)=true;kernel_rfl))
   all_goals (clear h131 h132;refine fzEq rfl (congrArg AV.bool ?_);first|(simp_all [formedG,kidsG];done)|(simp_all [formedG,kidsG];omega)))
 ·cases hrp:repG mn mx md
  all_goals (
   rw[hrp]at h132;simp +contextual (disch:=omega) only[Tryz.f82,dd82,go_sem,simprocAttr,mu82,↓AD,↓AC,↓AB,↓AA,h131,h132];repeat' (first|intro _|apply And.intro|(unfold dOk;kernel_rfl)|(show (_||_)=true;kernel_rfl)|(show (_&&_)=true;kernel_rfl))
   all_goals (clear h131 h132;refine fzEq rfl (congrArg AV.bool ?_);first|(simp_all [formedG,kidsG];done)|(simp_all [formedG,kidsG];omega)))
 all_goals (
  simp +contextual (disch:=omega) only[Tryz.f82,dd82,go_sem,simprocAttr,mu82,↓AD,↓AC,↓AB,↓AA,h131,h132];repeat' (first|intro _|apply And.intro|(unfold dOk;kernel_rfl)|(show (_||_)=true;kernel_rfl)|(show (_&&_)=true;kernel_rfl))
  all_goals (clear h131 h132;refine fzEq rfl (congrArg AV.bool ?_);first|(simp_all [formedG,kidsG,repG];done)|(simp_all [formedG,kidsG,repG];omega)))
end
section
attribute [local go_sem] evAppend length_append map_append tySzE head?_drop mul_one AR AY AP AS AT Ad
theorem f112:∀(N:Nat) (r:Re),r.wt<=N->r.wt<=1000000->∀ H,call Pg pol1 61 [reAV r] H=some (I r.size,H)
 | 0,r,h,_,_=>by have:=r.wt_pos;omega
 | N+1,.mk op set kids mn mx md n neg,h,hN,H=>by
   have hkl:=Re.wtL_len kids;have hwt:1+set.length+Re.wtL kids=(Re.mk op set kids mn mx md n neg).wt:=by simp[Re.wt]
   have ih:=fun k (hk:k∈kids)=>f112 N k (by have:=Re.wtL_mem hk;omega) (by have:=Re.wtL_mem hk;omega);have hsz:=Re.sizeL_wt kids;rw[show reAV (.mk op set kids mn mx md n neg)=.agg (nodeL op set kids mn mx md n neg) from congrArg AV.agg Bh];refine AX Tryz.func61 rfl rfl rfl rfl rfl rfl (fun _=>rfl) (by simp[AV.plain,AV.plainL,AF,AN]) rfl ?_ H;simp +contextual (disch:=omega) only[Tryz.f61,dd61,go_sem,simprocAttr,mu61,↓AD,↓AC,↓AB,↓AA];refine Ae (M:=(mskOf (pol1.mask 61) (pol1.gc 61) (pol1.acts 61) 0 3)) rfl kids.length (fun i=>(⟨21,[(4,I i),(3,I ((1+Re.sizeL (kids.take i):Nat):Int)),(1,.rf 0 1 0 0)],[.row 8 [.agg (nodeL op set kids mn mx md n neg)] 0]⟩:St)) (fun _=>True) ?_ ?_ trivial _ (by first|rfl|(refine Ar (n:=1) (m:=⟨some [4,3,1],some 1,[]⟩) rfl rfl ?_ ?_ ?_<;>first|rfl|(simp[keepT,AV.underL,AV.under,MB.under,AE,AH,AJ,AG,AF,AI,AK,-map_take,-map_replicate,-map_set,Re.sizeL,AN];done)|(simp[keepT,AV.underL,AV.under,MB.under,AE,AH,AJ,AG,AF,AI,AK,-map_take,-map_replicate,-map_set,Re.sizeL,AN];omega)))
   ·intro i hi _;obtain⟨k,hk⟩:∃ k,kids[i]?=some k:=⟨_,getElem?_eq_getElem hi⟩;have hkm:=mem_of_getElem? hk;have ihk:=ih k hkm;have hle:=Re.sizeL_take hk;have hle2:=Re.sizeL_le (l:=kids) (i:=i+1);have hadd:((1+Re.sizeL (kids.take i):Nat):Int)+(k.size:Int)=((1+Re.sizeL (kids.take (i+1)):Nat):Int):=by omega
    have hl8:=AM k;have ht8:=AU k;simp +contextual (disch:=omega) only[Tryz.f61,dd61,go_sem,simprocAttr,mu61,↓AD,↓AC,↓AB,↓AA,hk,ihk,hadd,hl8,ht8];exact(by first|rfl|(refine Ar (n:=1) (m:=⟨some [4,3,1],some 1,[]⟩) rfl rfl ?_ ?_ ?_<;>first|rfl|(simp[keepT,AV.underL,AV.under,MB.under,AE,AH,AJ,AG,AF,AI,AK,-map_take,-map_replicate,-map_set,AN];done)|(simp[keepT,AV.underL,AV.under,MB.under,AE,AH,AJ,AG,AF,AI,AK,-map_take,-map_replicate,-map_set,AN];omega)))
   ·intro _;rw[take_length];simp +contextual (disch:=omega) only[Tryz.f61,dd61,go_sem,simprocAttr,mu61,↓AD,↓AC,↓AB,↓AA];exact fzEq rfl (by simp[Re.size])
theorem f113:∀(N:Nat) (r:Re),r.wt<=N->r.wt<=1000000->∀ H,call Pg pol1 62 [reAV r] H=some (I r.depth,H)
 | 0,r,h,_,_=>by have:=r.wt_pos;omega
 | N+1,.mk op set kids mn mx md n neg,h,hN,H=>by
   have hkl:=Re.wtL_len kids;have hwt:1+set.length+Re.wtL kids=(Re.mk op set kids mn mx md n neg).wt:=by simp[Re.wt]
   have ih:=fun k (hk:k∈kids)=>f113 N k (by have:=Re.wtL_mem hk;omega) (by have:=Re.wtL_mem hk;omega);have hsz:=Re.sizeL_wt kids;have hdz:=Re.depthL_size kids;rw[show reAV (.mk op set kids mn mx md n neg)=.agg (nodeL op set kids mn mx md n neg) from congrArg AV.agg Bh];refine AX Tryz.func62 rfl rfl rfl rfl rfl rfl (fun _=>rfl) (by simp[AV.plain,AV.plainL,AF,AN]) rfl ?_ H;simp +contextual (disch:=omega) only[Tryz.f62,dd62,go_sem,simprocAttr,mu62,↓AD,↓AC,↓AB,↓AA];refine Ae (M:=(mskOf (pol1.mask 62) (pol1.gc 62) (pol1.acts 62) 0 3)) rfl kids.length (fun i=>(⟨22,[(4,I i),(3,I ((Re.depthL (kids.take i):Nat):Int)),(1,.rf 0 1 0 0)],[.row 8 [.agg (nodeL op set kids mn mx md n neg)] 0]⟩:St)) (fun _=>True) ?_ ?_ trivial _ (by first|rfl|(refine Ar (n:=1) (m:=⟨some [4,3,1],some 1,[]⟩) rfl rfl ?_ ?_ ?_<;>first|rfl|(simp[keepT,AV.underL,AV.under,MB.under,AE,AH,AJ,AG,AF,AI,AK,-map_take,-map_replicate,-map_set,Re.depthL,AN];done)|(simp[keepT,AV.underL,AV.under,MB.under,AE,AH,AJ,AG,AF,AI,AK,-map_take,-map_replicate,-map_set,Re.depthL,AN];omega)))
   ·intro i hi _;obtain⟨k,hk⟩:∃ k,kids[i]?=some k:=⟨_,getElem?_eq_getElem hi⟩;have hkm:=mem_of_getElem? hk;have ihk:=ih k hkm;have hle:=Re.depthL_take hk;have hadd:(if(k.depth:Int) > (Re.depthL (kids.take i):Nat) then(k.depth:Int) else(Re.depthL (kids.take i):Nat))=((Re.depthL (kids.take (i+1)):Nat):Int):=by rw[hle];split<;>omega
    have hl8:=AM k;have ht8:=AU k;simp +contextual (disch:=omega) only[Tryz.f62,dd62,go_sem,simprocAttr,mu62,↓AD,↓AC,↓AB,↓AA,hk,ihk,evMax,hadd,hl8,ht8];exact(by first|rfl|(refine Ar (n:=1) (m:=⟨some [4,3,1],some 1,[]⟩) rfl rfl ?_ ?_ ?_<;>first|rfl|(simp[keepT,AV.underL,AV.under,MB.under,AE,AH,AJ,AG,AF,AI,AK,-map_take,-map_replicate,-map_set,AN];done)|(simp[keepT,AV.underL,AV.under,MB.under,AE,AH,AJ,AG,AF,AI,AK,-map_take,-map_replicate,-map_set,AN];omega)))
   ·intro _;rw[take_length];simp +contextual (disch:=omega) only[Tryz.f62,dd62,go_sem,simprocAttr,mu62,↓AD,↓AC,↓AB,↓AA];exact fzEq rfl (by simp[Re.depth];omega)
end
section
attribute [local go_sem] evAppend length_append map_append tySzE head?_drop mul_one AR AY AP AS AT Ad
theorem DN:∀ {l:List Re}{k:Re},k∈l->nullG k=false->nullAll l=false
 | x::l,k,h,hk=>by
   rcases mem_cons.1 h with e|e
   ·rw[<- e];simp[nullAll,hk]
   ·simp[nullAll,DN e hk]
theorem Dc:∀ {l:List Re},(∀(i:Nat) (k:Re),i<l.length->l[i]?=some k->nullG k=true)->nullAll l=true
 | [],_=>by simp[nullAll]
 | x::l,h=>by
   simp only[nullAll,and_eq_true];exact⟨h 0 x (by simp) rfl,Dc fun i k hi hk=>h (i+1) k (by simp;omega) (by simpa using hk)⟩
theorem Cp:∀ {l:List Re}{k:Re},k∈l->nullG k=true->nullAny l=true
 | x::l,k,h,hk=>by
   rcases mem_cons.1 h with e|e
   ·rw[<- e];simp[nullAny,hk]
   ·simp[nullAny,Cp e hk]
theorem DM:∀ {l:List Re},(∀(i:Nat) (k:Re),i<l.length->l[i]?=some k->nullG k=false)->nullAny l=false
 | [],_=>by simp[nullAny]
 | x::l,h=>by
   simp only[nullAny,Bool.or_eq_false_iff];exact⟨h 0 x (by simp) rfl,DM fun i k hi hk=>h (i+1) k (by simp;omega) (by simpa using hk)⟩
theorem f20:∀(N:Nat) (r:Re),r.wt<=N->r.wt<=1000000->∀ H,call Pg pol1 59 [reAV r] H=some (.bool (nullG r),H)
 | 0,r,h,_,_=>by have:=r.wt_pos;omega
 | N+1,.mk op set kids mn mx md n neg,h,hN,H=>by
   have hkl:=Re.wtL_len kids;have hwt:1+set.length+Re.wtL kids=(Re.mk op set kids mn mx md n neg).wt:=by simp[Re.wt]
   have ih:=fun k (hk:k∈kids)=>f20 N k (by have:=Re.wtL_mem hk;omega) (by have:=Re.wtL_mem hk;omega);rw[show reAV (.mk op set kids mn mx md n neg)=.agg (nodeL op set kids mn mx md n neg) from congrArg AV.agg Bh];refine AX Tryz.func59 rfl rfl rfl rfl rfl rfl (fun _=>rfl) (by simp[AV.plain,AV.plainL,AF,AN]) rfl ?_ H;rw[nullG];by_cases h1:op=1
   ·subst h1;rw[if_pos rfl];simp +contextual (disch:=omega) only[Tryz.f59,dd59,go_sem,simprocAttr,mu59,↓AD,↓AC,↓AB,↓AA];exact fzEq rfl rfl
   rw[if_neg h1];by_cases h2:op=2
   ·subst h2;rw[if_pos rfl];simp +contextual (disch:=omega) only[Tryz.f59,dd59,go_sem,simprocAttr,mu59,↓AD,↓AC,↓AB,↓AA];refine Ae (M:=(mskOf (pol1.mask 59) (pol1.gc 59) (pol1.acts 59) 0 6)) rfl kids.length (fun i=>(⟨73,[(3,I i),(1,.rf 0 1 0 0)],[.row 8 [.agg (nodeL 2 set kids mn mx md n neg)] 0]⟩:St)) (fun i=>∀ j k,j<i->kids[j]?=some k->nullG k=true) ?_ ?_ (fun j k h=>by omega) _ (by first|rfl|(refine Ar (n:=1) (m:=⟨some [3,1],some 1,[]⟩) rfl rfl ?_ ?_ ?_<;>first|rfl|(simp[keepT,AV.underL,AV.under,MB.under,AE,AH,AJ,AG,AF,AI,AK,-map_take,-map_replicate,-map_set,AN];done)|(simp[keepT,AV.underL,AV.under,MB.under,AE,AH,AJ,AG,AF,AI,AK,-map_take,-map_replicate,-map_set,AN];omega)))
    ·intro i hi hg;obtain⟨k,hk⟩:∃ k,kids[i]?=some k:=⟨_,getElem?_eq_getElem hi⟩;have ihk:=ih k (mem_of_getElem? hk);have hl8:=AM k;have ht8:=AU k;cases hn:nullG k with
     | false=>
       rw[hn]at ihk;rw[DN (mem_of_getElem? hk) hn];simp +contextual (disch:=omega) only[Tryz.f59,dd59,go_sem,simprocAttr,mu59,↓AD,↓AC,↓AB,↓AA,hk,ihk,hl8,ht8];exact fzEq rfl rfl
     | true=>
       rw[hn]at ihk;simp +contextual (disch:=omega) only[Tryz.f59,dd59,go_sem,simprocAttr,mu59,↓AD,↓AC,↓AB,↓AA,hk,ihk,hl8,ht8];refine⟨fun j q hj hq=>?_,(by first|rfl|(refine Ar (n:=1) (m:=⟨some [3,1],some 1,[]⟩) rfl rfl ?_ ?_ ?_<;>first|rfl|(simp[keepT,AV.underL,AV.under,MB.under,AE,AH,AJ,AG,AF,AI,AK,-map_take,-map_replicate,-map_set,AN];done)|(simp[keepT,AV.underL,AV.under,MB.under,AE,AH,AJ,AG,AF,AI,AK,-map_take,-map_replicate,-map_set,AN];omega)))⟩;rcases lt_or_ge j i with h|h
       ·exact hg j q h hq
       ·obtain rfl:j=i:=by omega
        rw[hk]at hq;obtain rfl:=Option.some.inj hq;exact hn
    ·intro hg;rw[Dc fun j k hj hk=>hg j k hj hk];simp +contextual (disch:=omega) only[Tryz.f59,dd59,go_sem,simprocAttr,mu59,↓AD,↓AC,↓AB,↓AA];exact fzEq rfl rfl
   rw[if_neg h2];by_cases h3:op=3∨op=10
   ·rw[if_pos h3];rcases h3 with rfl|rfl
    all_goals (
     simp +contextual (disch:=omega) only[Tryz.f59,dd59,go_sem,simprocAttr,mu59,↓AD,↓AC,↓AB,↓AA];refine Ae (M:=(mskOf (pol1.mask 59) (pol1.gc 59) (pol1.acts 59) 0 14)) rfl kids.length (fun i=>(⟨73,[(4,I i),(1,.rf 0 1 0 0)],[.row 8 [.agg (nodeL _ set kids mn mx md n neg)] 0]⟩:St)) (fun i=>∀ j k,j<i->kids[j]?=some k->nullG k=false) ?_ ?_ (fun j k h=>by omega) _ (by first|rfl|(refine Ar (n:=1) (m:=⟨some [4,1],some 1,[]⟩) rfl rfl ?_ ?_ ?_<;>first|rfl|(simp[keepT,AV.underL,AV.under,MB.under,AE,AH,AJ,AG,AF,AI,AK,-map_take,-map_replicate,-map_set,AN];done)|(simp[keepT,AV.underL,AV.under,MB.under,AE,AH,AJ,AG,AF,AI,AK,-map_take,-map_replicate,-map_set,AN];omega)))
     ·intro i hi hg;obtain⟨k,hk⟩:∃ k,kids[i]?=some k:=⟨_,getElem?_eq_getElem hi⟩;have ihk:=ih k (mem_of_getElem? hk);have hl8:=AM k;have ht8:=AU k;cases hn:nullG k with
      | true=>
        rw[hn]at ihk;rw[Cp (mem_of_getElem? hk) hn];simp +contextual (disch:=omega) only[Tryz.f59,dd59,go_sem,simprocAttr,mu59,↓AD,↓AC,↓AB,↓AA,hk,ihk,hl8,ht8];exact fzEq rfl rfl
      | false=>
        rw[hn]at ihk;simp +contextual (disch:=omega) only[Tryz.f59,dd59,go_sem,simprocAttr,mu59,↓AD,↓AC,↓AB,↓AA,hk,ihk,hl8,ht8];refine⟨fun j q hj hq=>?_,(by first|rfl|(refine Ar (n:=1) (m:=⟨some [4,1],some 1,[]⟩) rfl rfl ?_ ?_ ?_<;>first|rfl|(simp[keepT,AV.underL,AV.under,MB.under,AE,AH,AJ,AG,AF,AI,AK,-map_take,-map_replicate,-map_set,AN];done)|(simp[keepT,AV.underL,AV.under,MB.under,AE,AH,AJ,AG,AF,AI,AK,-map_take,-map_replicate,-map_set,AN];omega)))⟩;rcases lt_or_ge j i with h|h
        ·exact hg j q h hq
        ·obtain rfl:j=i:=by omega
         rw[hk]at hq;obtain rfl:=Option.some.inj hq;exact hn
     ·intro hg;rw[DM fun j k hj hk=>hg j k hj hk];simp +contextual (disch:=omega) only[Tryz.f59,dd59,go_sem,simprocAttr,mu59,↓AD,↓AC,↓AB,↓AA];exact fzEq rfl rfl)
   rw[if_neg h3];by_cases h4:op=4
   ·subst h4;rw[if_pos rfl];by_cases hm:mn<=0
    ·simp +contextual (disch:=omega) only[Tryz.f59,dd59,go_sem,simprocAttr,mu59,↓AD,↓AC,↓AB,↓AA];exact fzEq rfl (by simp[hm])
    ·cases kids with
     | nil=>
       simp +contextual (disch:=omega) only[Tryz.f59,dd59,go_sem,simprocAttr,mu59,↓AD,↓AC,↓AB,↓AA];exact fzEq rfl (by simp[hm,nullHd])
     | cons k ks=>
       have ihk:=ih k (List.mem_cons_self ..);have hl8:=AM k;have ht8:=AU k;simp only[length_cons]at hkl;simp +contextual (disch:=omega) only[Tryz.f59,dd59,go_sem,simprocAttr,mu59,↓AD,↓AC,↓AB,↓AA,ihk,hl8,ht8];exact fzEq rfl (by simp[hm,nullHd])
   rw[if_neg h4];by_cases h5:op=5∨op=9
   ·rw[if_pos h5];rcases h5 with rfl|rfl
    all_goals (
     cases kids with
     | nil=>
       simp +contextual (disch:=omega) only[Tryz.f59,dd59,go_sem,simprocAttr,mu59,↓AD,↓AC,↓AB,↓AA];exact fzEq rfl (by simp[nullHd])
     | cons k ks=>
       have ihk:=ih k (List.mem_cons_self ..);have hl8:=AM k;have ht8:=AU k;simp only[length_cons]at hkl;simp +contextual (disch:=omega) only[Tryz.f59,dd59,go_sem,simprocAttr,mu59,↓AD,↓AC,↓AB,↓AA,ihk,hl8,ht8];exact fzEq rfl (by simp[nullHd]))
   rw[if_neg h5];simp +contextual (disch:=omega) only[Tryz.f59,dd59,go_sem,simprocAttr,mu59,↓AD,↓AC,↓AB,↓AA];exact fzEq rfl rfl
end
section
attribute [local go_sem] evAppend length_append map_append tySzE head?_drop mul_one AR AY AP AS AT Ad
theorem BC {caps top op:Int}{set:List (Int×Int)}{kids:List Re}{mn mx md n:Int}{neg:Bool} (h:wholeG caps top (.mk op set kids mn mx md n neg)=true) :
  (∀ k∈kids,wholeG caps top k=true)/\kidsG op kids.length=true/\(op=4->repG mn mx md=true)/\(op=5∨op=6∨op=10->1<=n/\n<=caps)/\0<=op/\op<=11:=by
 rw[wholeG,and_eq_true,ET]at h;obtain⟨h1,h2⟩:=h;simp only[formedG,and_eq_true,decide_eq_true_eq]at h1;obtain⟨⟨⟨⟨⟨⟨a1,a2⟩,a3⟩,a4⟩,a5⟩,a6⟩,a7⟩:=h1;refine⟨h2,a3,fun e=>?_,fun e=>?_,a1,a2⟩
 ·rw[if_pos e]at a5;exact a5
 ·rw[if_pos e]at a6;simpa using a6
theorem f133 (b0:MB) (caps top:Int):∀(N:Nat) (r:Re),r.wt<=N->r.wt<=1000000->wholeG caps top r=true->call Pg pol1 108 [.pt (reC r),.rf 1 1 0 0] [b0,.row 1 [.clo 108 [.rf 1 1 0 0]] 0]=some (.bool (nullG r),[b0,.row 1 [.clo 108 [.rf 1 1 0 0]] 0])
 | 0,r,h,_,_=>by have:=r.wt_pos;omega
 | N+1,.mk op set kids mn mx md n neg,h,hN,hw=>by
   have hkl:=Re.wtL_len kids;have hwt:1+set.length+Re.wtL kids=(Re.mk op set kids mn mx md n neg).wt:=by simp[Re.wt]
   obtain⟨hwk,hkd,hrp,_,ho1,ho2⟩:=BC hw;have ih:=fun k (hk:k∈kids)=>f133 b0 caps top N k (by have:=Re.wtL_mem hk;omega) (by have:=Re.wtL_mem hk;omega) (hwk k hk);rw[show (.pt (reC (.mk op set kids mn mx md n neg)):AV)=.pt (nodeL op set kids mn mx md n neg) from congrArg AV.pt Bh];have fr:frzArgs pol1 108 0 [.pt (nodeL op set kids mn mx md n neg),.rf 1 1 0 0] [b0,.row 1 [.clo 108 [.rf 1 1 0 0]] 0]=some ([.pt (nodeL op set kids mn mx md n neg),.rf 1 1 0 0],[b0,.row 1 [.clo 108 [.rf 1 1 0 0]] 0]):=
    AL _ _ _ (by simp[mixOk,show pol1.byref 108 1=true from rfl,AV.plain,AV.plainL,AF,AN])
   have rt:∀ x:Bool,retPol pol1 108 [b0,.row 1 [.clo 108 [.rf 1 1 0 0]] 0] (.bool x) [b0,.row 1 [.clo 108 [.rf 1 1 0 0]] 0]=some (.bool x,[b0,.row 1 [.clo 108 [.rf 1 1 0 0]] 0]):=fun x=>
    Bt rfl rfl rfl (by simp[keptOk,MB.beq_refl]) rfl
   refine AO (pol:=pol1) Tryz.func108 rfl rfl rfl rfl fr ?_;have any:∀ r':Bool,r' = nullAny kids->∀ i,i<kids.length->∀ k,kids[i]?=some k->(∀ j q,j<i->kids[j]?=some q->nullG q=false)->nullG k=true->r' = true:=fun r' hr i _ k hk _ hn=>by rw[hr,Cp (mem_of_getElem? hk) hn]
   have hop:op=0∨op=1∨op=2∨op=3∨op=4∨op=5∨op=6∨op=7∨op=8∨op=9∨op=10∨op=11:=by omega
   have hone:op=4∨op=5∨op=9->nullHd kids=nullAny kids:=fun e=>by
    have:kids.length=1:=by rcases e with rfl|rfl|rfl<;>simpa [kidsG] using hkd
    match kids,this with
    | [k],_=>simp[nullHd,nullAny]
   by_cases hloop:op=3∨op=10∨op=5∨op=9∨(op=4/\mn≠0)
   ·have hres:nullG (.mk op set kids mn mx md n neg)=nullAny kids:=by
     rw[nullG];rcases hloop with rfl|rfl|rfl|rfl|⟨rfl,hmn⟩
     ·simp
     ·simp
     ·simp[hone (.inr (.inl rfl))]
     ·simp[hone (.inr (.inr rfl))]
     ·have hr:=hrp rfl;simp only[repG,and_eq_true,decide_eq_true_eq]at hr;have:¬ mn<=0:=by omega
      simp[hone (.inl rfl),this]
    rw[hres];clear hres hone any;rcases hloop with rfl|rfl|rfl|rfl|⟨rfl,hmn⟩
    all_goals (
     simp +contextual (disch:=omega) only[Tryz.f108,FI,go_sem,simprocAttr,FA,↓AD,↓AC,↓AB,↓AA];refine Ae (M:=(mskOf (pol1.mask 108) (pol1.gc 108) (pol1.acts 108) 0 25)) rfl kids.length (fun i=>(⟨65,[(53,I i),(52,I kids.length),(1,.rf 1 1 0 0),(0,.pt (nodeL _ set kids mn mx md n neg))],[b0,.row 1 [.clo 108 [.rf 1 1 0 0]] 0]⟩:St)) (fun i=>∀ j k,j<i->kids[j]?=some k->nullG k=false) ?_ ?_ (fun j k h=>by omega) _ rfl
     ·intro i hi hg;obtain⟨k,hk⟩:∃ k,kids[i]?=some k:=⟨_,getElem?_eq_getElem hi⟩;have ihk:=ih k (mem_of_getElem? hk);have hl8:=AM k;have ht8:=AU k;cases hn:nullG k with
      | true=>
        rw[hn]at ihk;rw[Cp (mem_of_getElem? hk) hn];simp +contextual (disch:=omega) only[Tryz.f108,FI,go_sem,simprocAttr,FA,↓AD,↓AC,↓AB,↓AA,hk,ihk,hl8,ht8,rt];repeat' (first|intro _|apply And.intro|(unfold dOk;kernel_rfl)|(show (_||_)=true;kernel_rfl)|(show (_&&_)=true;kernel_rfl))
      | false=>
        rw[hn]at ihk;simp +contextual (disch:=omega) only[Tryz.f108,FI,go_sem,simprocAttr,FA,↓AD,↓AC,↓AB,↓AA,hk,ihk,hl8,ht8];repeat' (first|intro _|apply And.intro|(unfold dOk;kernel_rfl)|(show (_||_)=true;kernel_rfl)|(show (_&&_)=true;kernel_rfl))
        ·rename_i j q hj hq;rcases lt_or_ge j i with h|h
         ·exact hg j q h hq
         ·obtain rfl:j=i:=by omega
          rw[hk]at hq;obtain rfl:=Option.some.inj hq;exact hn
        ·rfl
     ·intro hg;rw[DM fun j k hj hk=>hg j k hj hk];simp +contextual (disch:=omega) only[Tryz.f108,FI,go_sem,simprocAttr,FA,↓AD,↓AC,↓AB,↓AA,rt])
   ·clear any hone;have hop:op=2∨op=1∨(op=4/\mn=0)∨op=0∨op=6∨op=7∨op=8∨op=11:=by omega
    clear hloop;rcases hop with rfl|hop
    ·rw[nullG,if_neg (by omega),if_pos rfl];simp +contextual (disch:=omega) only[Tryz.f108,FI,go_sem,simprocAttr,FA,↓AD,↓AC,↓AB,↓AA];refine Ae (M:=(mskOf (pol1.mask 108) (pol1.gc 108) (pol1.acts 108) 0 11)) rfl kids.length (fun i=>(⟨65,[(23,I i),(22,I kids.length),(1,.rf 1 1 0 0),(0,.pt (nodeL _ set kids mn mx md n neg))],[b0,.row 1 [.clo 108 [.rf 1 1 0 0]] 0]⟩:St)) (fun i=>∀ j k,j<i->kids[j]?=some k->nullG k=true) ?_ ?_ (fun j k h=>by omega) _ rfl
     ·intro i hi hg;obtain⟨k,hk⟩:∃ k,kids[i]?=some k:=⟨_,getElem?_eq_getElem hi⟩;have ihk:=ih k (mem_of_getElem? hk);have hl8:=AM k;have ht8:=AU k;cases hn:nullG k with
      | false=>
        rw[hn]at ihk;rw[DN (mem_of_getElem? hk) hn];simp +contextual (disch:=omega) only[Tryz.f108,FI,go_sem,simprocAttr,FA,↓AD,↓AC,↓AB,↓AA,hk,ihk,hl8,ht8,rt];repeat' (first|intro _|apply And.intro|(unfold dOk;kernel_rfl)|(show (_||_)=true;kernel_rfl)|(show (_&&_)=true;kernel_rfl))
      | true=>
        rw[hn]at ihk;simp +contextual (disch:=omega) only[Tryz.f108,FI,go_sem,simprocAttr,FA,↓AD,↓AC,↓AB,↓AA,hk,ihk,hl8,ht8];repeat' (first|intro _|apply And.intro|(unfold dOk;kernel_rfl)|(show (_||_)=true;kernel_rfl)|(show (_&&_)=true;kernel_rfl))
        ·rename_i j q hj hq;rcases lt_or_ge j i with h|h
         ·exact hg j q h hq
         ·obtain rfl:j=i:=by omega
          rw[hk]at hq;obtain rfl:=Option.some.inj hq;exact hn
        ·rfl
     ·intro hg;rw[Dc fun j k hj hk=>hg j k hj hk];simp +contextual (disch:=omega) only[Tryz.f108,FI,go_sem,simprocAttr,FA,↓AD,↓AC,↓AB,↓AA,rt]
    ·have hres:nullG (.mk op set kids mn mx md n neg)=(if op=1 then false else true):=by
      rw[nullG];rcases hop with rfl|⟨rfl,rfl⟩|rfl|rfl|rfl|rfl|rfl<;>simp
     rw[hres];rcases hop with rfl|⟨rfl,rfl⟩|rfl|rfl|rfl|rfl|rfl
     all_goals (
      first|rw[if_pos rfl]|rw[if_neg (by omega)]
      simp +contextual (disch:=omega) only[Tryz.f108,FI,go_sem,simprocAttr,FA,↓AD,↓AC,↓AB,↓AA,rt])
theorem f105 (r:Re) (hN:r.wt<=1000000) (caps top:Int) (hw:wholeG caps top r=true) (H:List MB):call Pg pol1 83 [reAV r] H=some (.bool (nullG r),H):=by
 refine AX Tryz.func83 rfl rfl rfl rfl rfl rfl (fun _=>rfl) (by simp[AV.plain,AV.plainL,AZ]) rfl ?_ H;have hz:fz (.rf 0 1 0 0) [.row 8 [.agg (reC r)] 0]=some (.pt (reC r),[.row 8 [.agg (reC r)] 1]):=HK (x:=.agg (reC r)) (k:=8) (z:=0) rfl rfl rfl (AZ r);have hc:=fun b0=>f133 b0 caps top r.wt r (le_refl _) hN hw;have hl8:=AM r;have hal:=Au r;simp +contextual (disch:=omega) only[Tryz.f83,dd83,go_sem,simprocAttr,mu83,↓AD,↓AC,↓AB,↓AA,hl8,hz,hc,hal,lookD,look];exact fzEq rfl rfl
end
section
attribute [local go_sem] evAppend length_append map_append tySzE head?_drop mul_one AR AY AP AS AT Ad
mutual
def lenG:Re->Nat
 | .mk op set kids mn mx md n neg=>
   if op=1∨op=11 then 1 else if op=3 then lenL kids+2*(kids.length-1) else if op=5 then lenL kids+2
   else if op=4 then(if mx = -1 then(mn.toNat+1)*lenL kids+2 else mx.toNat*lenL kids+(mx.toNat-mn.toNat)) else lenL kids
def lenL:List Re->Nat
 | []=>0
 | k::ks=>lenG k+lenL ks
end
theorem Ds:∀(a b:List Re),lenL (a++b)=lenL a+lenL b
 | [],b=>by simp[lenL]
 | k::ks,b=>by simp[lenL,Ds ks b,Nat.add_assoc]
theorem ED {l:List Re}{i:Nat}{k:Re} (h:l[i]?=some k):lenL (l.take (i+1))=lenL (l.take i)+lenG k:=by
 rw[List.take_add_one,h,Ds];simp[lenL]
theorem f50 (caps top:Int):∀(N:Nat) (r:Re),r.wt<=N->r.wt<=1000000->wholeG caps top r=true->∀ H,call Pg pol1 51 [.pt (reC r)] H=some (I ((min (lenG r) 8193:Nat):Int),H)
 | 0,r,h,_,_,_=>by have:=r.wt_pos;omega
 | N+1,.mk op set kids mn mx md n neg,h,hN,hw,H=>by
   have hkl:=Re.wtL_len kids;have hwt:1+set.length+Re.wtL kids=(Re.mk op set kids mn mx md n neg).wt:=by simp[Re.wt]
   obtain⟨hwk,hkd,hrp,_,ho1,ho2⟩:=BC hw;have ih:=fun k (hk:k∈kids)=>f50 caps top N k (by have:=Re.wtL_mem hk;omega) (by have:=Re.wtL_mem hk;omega) (hwk k hk);rw[show (.pt (reC (.mk op set kids mn mx md n neg)):AV)=.pt (nodeL op set kids mn mx md n neg) from congrArg AV.pt Bh];refine AX Tryz.func51 rfl rfl rfl rfl rfl rfl (fun _=>rfl) (by simp[AV.plain,AV.plainL,AF,AN]) rfl ?_ H;simp +contextual (disch:=omega) only[Tryz.f51,dd51,go_sem,simprocAttr,mu51,↓AD,↓AC,↓AB,↓AA];refine Ae (M:=(mskOf (pol1.mask 51) (pol1.gc 51) (pol1.acts 51) 0 3)) rfl kids.length (fun i=>(⟨81,[(11,I i),(10,I kids.length),(3,I ((min (lenL (kids.take i)) 8193:Nat):Int)),(0,.pt (nodeL op set kids mn mx md n neg))],[]⟩:St)) (fun _=>True) ?_ ?_ trivial _ (by first|rfl|(simp[keepT,AV.underL,AV.under,MB.under,AE,AH,AJ,AG,AF,AI,AK,-map_take,-map_replicate,-map_set,lenL,AN];done))
   ·intro i hi _;obtain⟨k,hk⟩:∃ k,kids[i]?=some k:=⟨_,getElem?_eq_getElem hi⟩;have ihk:=ih k (mem_of_getElem? hk);have hl8:=AM k;have ht8:=AU k;have e1:=ED hk;have hm:(if(8193:Int)<((min (lenL (kids.take i)) 8193:Nat):Int)+((min (lenG k) 8193:Nat):Int) then(8193:Int) else((min (lenL (kids.take i)) 8193:Nat):Int)+((min (lenG k) 8193:Nat):Int))=((min (lenL (kids.take (i+1))) 8193:Nat):Int):=by
     rw[e1];split<;>omega
    simp +contextual (disch:=omega) only[Tryz.f51,dd51,go_sem,simprocAttr,mu51,↓AD,↓AC,↓AB,↓AA,hk,ihk,evMin,hm,hl8,ht8];exact(by first|rfl|(simp[keepT,AV.underL,AV.under,MB.under,AE,AH,AJ,AG,AF,AI,AK,-map_take,-map_replicate,-map_set,AN];done))
   ·intro _;rw[take_length];have hop:op=0∨op=1∨op=2∨op=3∨op=4∨op=5∨op=6∨op=7∨op=8∨op=9∨op=10∨op=11:=by omega
    rw[lenG];generalize lenL kids=L at *;by_cases h1:op=1∨op=11
    ·rw[if_pos h1];rcases h1 with rfl|rfl
     all_goals (
      simp +contextual (disch:=omega) only[Tryz.f51,dd51,go_sem,simprocAttr,mu51,↓AD,↓AC,↓AB,↓AA,evMin];exact fzEq rfl rfl)
    rw[if_neg h1];by_cases h3:op=3
    ·subst h3;rw[if_pos rfl];have hk2:2<=kids.length:=by simpa [kidsG] using hkd
     have hw1:IntKind.i64.wrap (((kids.length:Nat):Int)-1)=((kids.length-1:Nat):Int):=AB ⟨by omega,by omega⟩;simp +contextual (disch:=omega) only[Tryz.f51,dd51,go_sem,simprocAttr,mu51,↓AD,↓AC,↓AB,↓AA,evMin];refine fzEq rfl (congrArg (AV.int .i64) ?_);split<;>omega
    rw[if_neg h3];by_cases h5:op=5
    ·subst h5;rw[if_pos rfl];simp +contextual (disch:=omega) only[Tryz.f51,dd51,go_sem,simprocAttr,mu51,↓AD,↓AC,↓AB,↓AA,evMin];refine fzEq rfl (congrArg (AV.int .i64) ?_);split<;>omega
    rw[if_neg h5];by_cases h4:op=4
    ·subst h4;rw[if_pos rfl];have hr:=hrp rfl;simp only[repG,and_eq_true,Bool.or_eq_true,decide_eq_true_eq,beq_iff_eq]at hr;obtain⟨mn',rfl⟩:∃ m:Nat,mn=m:=⟨mn.toNat,by omega⟩;have hmn:mn'<=32:=by omega
     have hmul:∀ a:Nat,a<=33->a*(min L 8193)<=33*8193:=fun a ha=>Nat.mul_le_mul ha (by omega);have hml:=hmul mn' (by omega);have hc1:(mn':Int)*((min L 8193:Nat):Int)=((mn'*min L 8193:Nat):Int):=by simp
     by_cases hmx:mx = -1
     ·subst hmx;rw[if_pos rfl];simp +contextual (disch:=omega) only[Tryz.f51,dd51,go_sem,simprocAttr,mu51,↓AD,↓AC,↓AB,↓AA,evMin,hc1];refine fzEq rfl (congrArg (AV.int .i64) ?_);rw[Nat.succ_mul];by_cases hL:L<=8193
      ·rw[Nat.min_eq_left hL]at *;split<;>omega
      ·have hle:L<=mn'*L+L:=Nat.le_add_left _ _;rw[Nat.min_eq_right (by omega)]at *;split<;>omega
     ·rw[if_neg hmx];obtain⟨mx',rfl⟩:∃ m:Nat,mx=m:=⟨mx.toNat,by omega⟩;obtain⟨e,rfl⟩:∃ e,mx' = mn' + e:=⟨mx'-mn',by omega⟩;have hsub:((mn' + e:Nat):Int)-(mn':Int)=(e:Int):=by omega
      have hme:e*(min L 8193+1)<=33*8194:=Nat.mul_le_mul (by omega) (by omega);have hc2:(e:Int)*((min L 8193+1:Nat):Int)=((e*(min L 8193+1):Nat):Int):=by simp
      have hnn:mn' + e-mn' = e:=by omega
      simp +contextual (disch:=omega) only[Tryz.f51,dd51,go_sem,simprocAttr,mu51,↓AD,↓AC,↓AB,↓AA,evMin,hc1,hc2,hnn,hsub];refine⟨by unfold dOk;kernel_rfl,?_⟩;refine fzEq rfl (congrArg (AV.int .i64) ?_);rw[Nat.mul_add,Nat.add_mul,mul_one]at *;by_cases hL:L<=8193
      ·rw[Nat.min_eq_left hL]at *;split<;>omega
      ·rw[Nat.min_eq_right (by omega)]at *;have h1:mn' = 0∨L<=mn'*L:=by
        rcases Nat.eq_zero_or_pos mn' with h|h
        ·exact .inl h
        ·exact .inr (Nat.le_mul_of_pos_left _ h)
       have h2:e=0∨L<=e*L:=by
        rcases Nat.eq_zero_or_pos e with h|h
        ·exact .inl h
        ·exact .inr (Nat.le_mul_of_pos_left _ h)
       split<;>omega
    rw[if_neg h4];simp +contextual (disch:=omega) only[Tryz.f51,dd51,go_sem,simprocAttr,mu51,↓AD,↓AC,↓AB,↓AA,evMin];refine fzEq rfl (congrArg (AV.int .i64) ?_);split<;>omega
end
section
attribute [local go_sem] evAppend length_append map_append
theorem LM (l:List Int):((l.map I).all fun y=>decide (y.cells.length=1)&&y.cells.all AV.ok)=true:=by
 simp only[List.all_eq_true,List.mem_map,and_eq_true,decide_eq_true_eq];rintro _ ⟨i,_,rfl⟩;exact⟨rfl,fun x hx=>by
  simp only[AV.cells,mem_singleton]at hx;rw[hx];rfl⟩
end
section
attribute [local go_sem] evAppend length_append map_append tySzE head?_drop mul_one AR AY AP AS AT Ad
def matAV (s e:Int) (caps:List (Int×Int)):AV:=.agg [I s,I e,.sl false (caps.map spanAV)]
theorem FT (s e:Int) (caps:List (Int×Int)):AV.plain (matAV s e caps)=true:=by simp[matAV,AV.plain,AV.plainL,AF]
end
structure Way where
 pc:Nat
 at_:Nat
 regs:List Int
inductive Out where
 | done
 | ways (l:List Way)
structure Prog1 where
 ins:Nat->Option Ins
 has:List (Int×Int)->Nat->Bool
 holds:Int->Nat->Bool
def stepW (p:Prog1) (w:Way):Out:=
 match p.ins w.pc with
 | none=>.ways []
 | some i=>
   if i.op=0 then .done
   else if i.op=1 then(if p.has i.set w.at_ then .ways [⟨w.pc+1,w.at_+1,w.regs⟩] else .ways [])
   else if i.op=2 then .ways [⟨i.x.toNat,w.at_,w.regs⟩,⟨i.y.toNat,w.at_,w.regs⟩]
   else if i.op=3 then .ways [⟨i.x.toNat,w.at_,w.regs⟩]
   else if i.op=4 then .ways [⟨w.pc+1,w.at_,w.regs.set i.n.toNat w.at_⟩]
   else(if p.holds i.n w.at_ then .ways [⟨w.pc+1,w.at_,w.regs⟩] else .ways [])
def runW (p:Prog1) (most:Int):Nat->List Way->List Way->Option (List Way)
 | fuel,todo,out=>
   match todo with
   | []=>some out
   | w::rest=>
     if(out.length:Int)=most then some out
     else
      match fuel with
      | 0=>none
      | fuel+1=>
        match stepW p w with
        | .done=>runW p most fuel rest (out++[w])
        | .ways l=>runW p most fuel (l++rest) out
def Way.like (a b:Way):Prop:=a.pc=b.pc/\a.at_=b.at_
def likeL:List Way->List Way->Prop
 | [],[]=>True
 | a::l,b::m=>a.like b/\likeL l m
 | _,_=>False
theorem FC:∀ {a b c d:List Way},likeL a b->likeL c d->likeL (a++c) (b++d)
 | [],[],_,_,_,h=>h
 | _::_,_::_,_,_,h1,h2=>⟨h1.1,FC h1.2 h2⟩
 | [],_::_,_,_,h,_=>h.elim
 | _::_,[],_,_,h,_=>h.elim
def likeO:Out->Out->Prop
 | .done,.done=>True
 | .ways l,.ways m=>likeL l m
 | _,_=>False
theorem EW (p:Prog1) {a b:Way} (h:a.like b):likeO (stepW p a) (stepW p b):=by
 obtain⟨h1,h2⟩:=h;unfold stepW;rw[h1,h2];cases p.ins b.pc with
 | none=>exact trivial
 | some i=>
   simp only[];repeat' split
   all_goals first|exact trivial|exact⟨⟨rfl,rfl⟩,trivial⟩|exact⟨⟨rfl,rfl⟩,⟨rfl,rfl⟩,trivial⟩
inductive Reach (p:Prog1):Way->Way->List Way->Nat->Nat->Prop where
 | refl (w:Way):Reach p w w [] 0 0
 | on {w0 w w':Way}{E l:List Way}{d m:Nat} (h:Reach p w0 w E d m) (hs:stepW p w=.ways (w'::l)):Reach p w0 w' (l++E) d (m+1)
 | pop {w0 w e:Way}{E:List Way}{d m:Nat} (h:Reach p w0 w (e::E) d m) (hs:stepW p w=.ways []):Reach p w0 e E d (m+1)
 | found {w0 w e:Way}{E:List Way}{d m:Nat} (h:Reach p w0 w (e::E) d m) (hs:stepW p w=.done):Reach p w0 e E (d+1) (m+1)
theorem Reach.like {p:Prog1}{w0 w:Way}{E:List Way}{d m:Nat} (h:Reach p w0 w E d m) {v0:Way} (hv:w0.like v0):∃ v F,w.like v/\likeL E F/\Reach p v0 v F d m:=by
 induction h with
 | refl=>exact⟨v0,[],hv,trivial,.refl v0⟩
 | on h hs ih=>
   obtain⟨v,F,h1,h2,h3⟩:=ih;have h4:=EW p h1;rw[hs]at h4;cases hq:stepW p v with
   | done=>rw[hq]at h4;exact h4.elim
   | ways l2=>
     rw[hq]at h4;cases l2 with
     | nil=>exact h4.elim
     | cons a l2=>exact⟨a,l2++F,h4.1,FC h4.2 h2,.on h3 hq⟩
 | pop h hs ih=>
   obtain⟨v,F,h1,h2,h3⟩:=ih;have h4:=EW p h1;rw[hs]at h4;cases hq:stepW p v with
   | done=>rw[hq]at h4;exact h4.elim
   | ways l2=>
     rw[hq]at h4;cases l2 with
     | nil=>
       cases F with
       | nil=>exact h2.elim
       | cons f F=>exact⟨f,F,h2.1,h2.2,.pop h3 hq⟩
     | cons a l2=>exact h4.elim
 | found h hs ih=>
   obtain⟨v,F,h1,h2,h3⟩:=ih;have h4:=EW p h1;rw[hs]at h4;cases hq:stepW p v with
   | done=>
     cases F with
     | nil=>exact h2.elim
     | cons f F=>exact⟨f,F,h2.1,h2.2,.found h3 hq⟩
   | ways l2=>rw[hq]at h4;exact h4.elim
theorem DS {p:Prog1}{most:Int}{fuel:Nat}{w:Way}{rest out:List Way} (h:¬ (out.length:Int)=most) :
  runW p most (fuel+1) (w::rest) out=match stepW p w with
   | .done=>runW p most fuel rest (out++[w])
   | .ways l=>runW p most fuel (l++rest) out:=by
 conv=>lhs;unfold runW
 simp only[h,if_false]
theorem EB {p:Prog1}{most:Int}{w:Way}{rest out:List Way} (h:¬ (out.length:Int)=most):runW p most 0 (w::rest) out=none:=by
 unfold runW;simp only[h,if_false]
theorem Reach.run {p:Prog1}{most:Int}{w0 w:Way}{E:List Way}{d m:Nat} (h:Reach p w0 w E d m) (S out:List Way) (hm:most = -1∨(d=0/\¬ (out.length:Int)=most)) (fuel:Nat) :
  ∃ out',out'.length=out.length+d/\runW p most (m+fuel) (w0::S) out=runW p most fuel (w::(E++S)) out':=by
 induction h generalizing fuel with
 | refl=>exact⟨out,rfl,by rw[Nat.zero_add];rfl⟩
 | @on w w' E l d m h hs ih=>
   obtain⟨out',h1,h2⟩:=ih hm (fuel+1);refine⟨out',h1,?_⟩;rw[show m+1+fuel=m+(fuel+1) by omega,h2,DS (by rcases hm with h|⟨h,h'⟩<;>omega),hs];simp only[List.cons_append,List.append_assoc]
 | @pop w e E d m h hs ih=>
   obtain⟨out',h1,h2⟩:=ih hm (fuel+1);refine⟨out',h1,?_⟩;rw[show m+1+fuel=m+(fuel+1) by omega,h2,DS (by rcases hm with h|⟨h,h'⟩<;>omega),hs];rfl
 | @found w e E d m h hs ih=>
   rcases hm with hm|hm
   ·obtain⟨out',h1,h2⟩:=ih (.inl hm) (fuel+1);refine⟨out'++[w],by simp;omega,?_⟩;rw[show m+1+fuel=m+(fuel+1) by omega,h2,DS (by omega),hs];rfl
   ·omega
theorem Reach.short {p:Prog1}{most:Int}{w0 w:Way}{E:List Way}{d m:Nat} (h:Reach p w0 w E d m) (S out:List Way) (hm:most = -1∨(d=0/\¬ (out.length:Int)=most)) (fuel:Nat) (hf:fuel<m) :
  runW p most fuel (w0::S) out=none:=by
 induction h generalizing fuel with
 | refl=>omega
 | @on w w' E l d m h hs ih=>
   rcases lt_or_ge fuel m with h1|h1
   ·exact ih hm fuel h1
   ·obtain rfl:fuel=m:=by omega
    obtain⟨out',h2,h3⟩:=h.run S out hm 0;rw[add_zero]at h3;rw[h3,EB (by rcases hm with h|⟨h,h'⟩<;>omega)]
 | @pop w e E d m h hs ih=>
   rcases lt_or_ge fuel m with h1|h1
   ·exact ih hm fuel h1
   ·obtain rfl:fuel=m:=by omega
    obtain⟨out',h2,h3⟩:=h.run S out hm 0;rw[add_zero]at h3;rw[h3,EB (by rcases hm with h|⟨h,h'⟩<;>omega)]
 | @found w e E d m h hs ih=>
   rcases hm with hm|hm
   ·rcases lt_or_ge fuel m with h1|h1
    ·exact ih (.inl hm) fuel h1
    ·obtain rfl:fuel=m:=by omega
     obtain⟨out',h2,h3⟩:=h.run S out (.inl hm) 0;rw[add_zero]at h3;rw[h3,EB (by omega)]
   ·omega
theorem circle {p:Prog1}{most:Int}{w0 w:Way}{E:List Way}{d m:Nat} (h:Reach p w0 w E d (m+1)) (hl:w0.like w):∀(fuel:Nat) (v0:Way) (S out:List Way),w0.like v0->(most = -1∨(d=0/\¬ (out.length:Int)=most)) ->
  runW p most fuel (v0::S) out=none:=by
 intro fuel
 induction fuel using Nat.strongRecOn with
 | ind fuel ih=>
   intro v0 S out hv hm;obtain⟨v,F,h1,h2,h3⟩:=h.like hv;rcases lt_or_ge fuel (m+1) with hf|hf
   ·exact h3.short S out hm fuel hf
   ·obtain⟨out',o1,o2⟩:=h3.run S out hm (fuel-(m+1));rw[show m+1+(fuel-(m+1))=fuel by omega]at o2;rw[o2];refine ih _ (by omega) v (F++S) out' ⟨hl.1.trans h1.1,hl.2.trans h1.2⟩ ?_;rcases hm with hm|⟨hm,hm'⟩
    ·exact .inl hm
    ·exact .inr ⟨hm,by omega⟩
end Go.Ev
