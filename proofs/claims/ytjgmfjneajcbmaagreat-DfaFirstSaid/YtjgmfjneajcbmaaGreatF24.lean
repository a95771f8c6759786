/- What functions of the program compute; no further conditions. -/
import Derived.Test.YtjgmfjneajcbmaaGreatF23
set_option linter.unusedVariables false
set_option linter.unusedSimpArgs false
open Bool (and_eq_true or_eq_true)
open Go.Proofs Go.RowKit Go.IntWalk
set_option maxHeartbeats 8000000
set_option maxRecDepth 100000
namespace Go.Ev
theorem N0 {l:List (Int×Int)}{runes:Bool} (h:spansG l (topI runes)=true):refSpans l=0/\lastOk l (if runes then 1114111 else 255)=true:=by
 simp only[spansG,and_eq_true,decide_eq_true_eq,Bool.not_eq_true']at h;have ht:=JC runes;have hg:∀ k,k<l.length->badS l (topI runes) k=false:=fun k hk=>by
  have:=List.any_eq_false.1 h.2 k (List.mem_range.2 hk)
  simpa using this
 refine⟨?_,?_⟩
 ·rw[EO,if_neg (by omega)];intro k hk;have hb:=hg k hk;obtain⟨p,hp⟩:∃ p,l[k]?=some p:=⟨_,List.getElem?_eq_getElem hk⟩;simp only[badS,hp,Bool.or_eq_false_iff,decide_eq_false_iff_not]at hb;simp only[badAt,hp];have hd:decide (0<=p.1/\p.1<=p.2/\p.2<=1114111)=true:=by rw[decide_eq_true_eq];omega
  rw[hd];cases k with
  | zero=>rfl
  | succ k=>
    obtain⟨q,hq⟩:∃ q,l[k]?=some q:=⟨_,List.getElem?_eq_getElem (by omega)⟩;have:=hb.2;simp only[hq,decide_eq_false_iff_not]at this |-;have hd2:decide (p.1-q.2<2)=false:=by rw[decide_eq_false_iff_not];omega
    rw[hd2];rfl
 ·unfold lastOk;split
  ·rename_i p hp;have hk:=(List.getElem?_eq_some_iff.1 hp).1;have hb:=hg _ hk;simp only[badS,hp,Bool.or_eq_false_iff,decide_eq_false_iff_not]at hb;have:=hb.1.2;rw[decide_eq_true_eq];unfold topI at this;omega
  ·rfl
def OkL (N:Nat) (caps:Int) (runes:Bool) (l:List Ins):Prop:=∀ i∈l,okIns N caps runes i=true
theorem OkL.app {N:Nat}{caps:Int}{runes:Bool}{a b:List Ins} (ha:OkL N caps runes a) (hb:OkL N caps runes b):OkL N caps runes (a++b):=fun i hi=>by
 rcases List.mem_append.1 hi with h|h
 ·exact ha i h
 ·exact hb i h
theorem OkL.cons {N:Nat}{caps:Int}{runes:Bool}{x:Ins}{b:List Ins} (ha:okIns N caps runes x=true) (hb:OkL N caps runes b):OkL N caps runes (x::b):=fun i hi=>by
 rcases List.mem_cons.1 hi with rfl|h
 ·exact ha
 ·exact hb i h
theorem OkL.nil {N:Nat}{caps:Int}{runes:Bool}:OkL N caps runes []:=fun i hi=>by simp at hi
theorem OkL.flat {α:Type}{N:Nat}{caps:Int}{runes:Bool}{l:List α}{g:α->List Ins} (h:∀ x∈l,OkL N caps runes (g x)):OkL N caps runes (l.flatMap g):=fun i hi=>by
 obtain⟨x,hx,hi⟩:=List.mem_flatMap.1 hi;exact h x hx i hi
theorem G1 {N:Nat}{caps:Int}{runes:Bool}{md:Int}{a b:Nat} (ha:a<N) (hb:b<N):okIns N caps runes (insSplit md (a:Int) (b:Int))=true:=by
 unfold insSplit;split<;>simp[okIns,ha,hb]
theorem MW {N:Nat}{caps:Int}{runes:Bool}{a:Nat} (ha:a<N):okIns N caps runes ⟨3,(a:Int),0,0,[]⟩=true:=by simp[okIns,ha]
mutual
theorem GZ {caps:Int}{runes:Bool}{N:Nat}:∀ r:Re,GoodC caps (topI runes) r->∀ f,f+lenG r<N->OkL N caps runes (codeG r f)
 | .mk op set kids mn mx md n neg,h,f,hN=>by
   have hC:=Ha (N:=N) kids h.kids;have hA:=Hd (N:=N) kids h.kids;have hH:=NW (N:=N) kids h.kids;obtain⟨hk,hkd,hrp,hcp,_⟩:=BC h.whole;have hform:formedG caps (topI runes) (.mk op set kids mn mx md n neg)=true:=by
    have:=h.whole;rw[wholeG,and_eq_true]at this;exact this.1
   rw[codeG];rw[lenG]at hN;rcases h.op with rfl|rfl|rfl|rfl|rfl|rfl|rfl
   ·simp;exact OkL.nil
   ·simp only[if_true];have hs:spansG set (topI runes)=true:=by
     simp only[formedG,and_eq_true]at hform
     simpa using hform.1.1.1.2
    obtain⟨s1,s2⟩:=N0 hs;refine OkL.cons ?_ OkL.nil;simp[okIns,s1,s2]
   ·simp only[show ¬(2:Int)=1 by decide,show ¬(2:Int)=11 by decide,if_false,if_true];exact hC f (by simpa using hN)
   ·simp only[show ¬(3:Int)=1 by decide,show ¬(3:Int)=11 by decide,show ¬(3:Int)=2 by decide,if_false,if_true];have h2:2<=kids.length:=by simpa [kidsG] using hkd
    exact hA f (by omega) (by simpa using hN)
   ·obtain⟨k,rfl⟩:∃ k,kids=[k]:=List.length_eq_one_iff.1 (by simpa [kidsG] using hkd);have hr:=hrp rfl;simp only[repG,and_eq_true,or_eq_true,decide_eq_true_eq,beq_iff_eq]at hr;simp only[show ¬(4:Int)=1 by decide,show ¬(4:Int)=11 by decide,show ¬(4:Int)=2 by decide,show ¬(4:Int)=3 by decide,show ¬(4:Int)=5 by decide,if_false,if_true,or_self,lenL,codeHd,Nat.add_zero]at hN |-;simp only[codeHd]at hH;generalize hL:lenG k=L at *;by_cases hm:mx = -1
    ·simp only[if_pos hm]at hN |-;rw[Nat.succ_mul]at hN;refine OkL.app (OkL.flat fun i hi=>hH _ ?_) (OkL.cons (G1 (by omega) (by omega)) (OkL.app (hH _ (by rw[lenL,lenL,hL];omega)) (OkL.cons (MW (by omega)) OkL.nil)));have:=Nat.mul_le_mul_right L (show i+1<=mn.toNat by have:=List.mem_range.1 hi;omega);rw[Nat.succ_mul]at this;rw[lenL,lenL,hL];omega
    ·simp only[if_neg hm]at hN |-;obtain⟨e,he⟩:∃ e,mx.toNat=mn.toNat+e:=⟨mx.toNat-mn.toNat,by omega⟩;rw[he,Nat.add_sub_cancel_left,Nat.add_mul]at hN |-;refine OkL.app (OkL.flat fun i hi=>hH _ ?_) (OkL.flat fun j hj=>?_)
     ·have:=Nat.mul_le_mul_right L (show i+1<=mn.toNat by have:=List.mem_range.1 hi;omega);rw[Nat.succ_mul]at this;rw[lenL,lenL,hL];omega
     ·have h1:=List.mem_range.1 hj;have:=Nat.mul_le_mul_right L (show j+1<=e by omega);rw[Nat.succ_mul]at this;have h2:j*(L+1)=j*L+j:=by rw[Nat.mul_add,Nat.mul_one]
      exact OkL.cons (G1 (by omega) (by omega)) (hH _ (by rw[lenL,lenL,hL];omega))
   ·obtain⟨k,rfl⟩:∃ k,kids=[k]:=List.length_eq_one_iff.1 (by simpa [kidsG] using hkd);simp only[show ¬(5:Int)=1 by decide,show ¬(5:Int)=11 by decide,show ¬(5:Int)=2 by decide,show ¬(5:Int)=3 by decide,if_false,if_true,or_self]at hN |-;have hc:=hcp (.inl rfl);refine OkL.cons ?_ (OkL.app (hH _ (by omega)) (OkL.cons ?_ OkL.nil))
    ·simp[okIns];omega
    ·simp[okIns];omega
   ·simp only[show ¬(11:Int)=1 by decide,if_false,if_true];have hs:0<=n/\n<=5:=by
     simp only[formedG,and_eq_true]at hform
     simpa using hform.1.2
    refine OkL.cons ?_ OkL.nil;simp[okIns,hs]
theorem Ha {caps:Int}{runes:Bool}{N:Nat}:∀ l:List Re,(∀ k∈l,GoodC caps (topI runes) k)->∀ f,f+lenL l<N->OkL N caps runes (codeCat l f)
 | [],_,_,_=>OkL.nil
 | k::ks,h,f,hN=>by
   rw[lenL]at hN;rw[codeCat];exact OkL.app (GZ k (h k (by simp)) f (by omega)) (Ha ks (fun q hq=>h q (by simp[hq])) _ (by omega))
theorem Hd {caps:Int}{runes:Bool}{N:Nat}:∀ l:List Re,(∀ k∈l,GoodC caps (topI runes) k)->∀ f,1<=l.length->f+(lenL l+2*(l.length-1))<N->OkL N caps runes (codeAlt l f)
 | [],_,_,_,_=>OkL.nil
 | k::ks,h,f,_,hN=>by
   rw[codeAlt];have hk:=fun f=>GZ (N:=N) k (h k (by simp)) f;split
   ·rename_i h0;have:ks=[]:=List.length_eq_zero_iff.1 h0;subst this;exact hk f (by simp[lenL]at hN;omega)
   ·rename_i h0;have hs:=Hd (N:=N) ks (fun q hq=>h q (by simp[hq])) (f+lenG k+2) (by omega);simp only[lenL,List.length_cons]at hN;refine OkL.cons ?_ (OkL.app (hk _ (by omega)) (OkL.cons (MW (by simp only[lenL];omega)) (hs (by omega))));have:=G1 (N:=N) (caps:=caps) (runes:=runes) (md:=0) (a:=f+1) (b:=f+lenG k+2) (by omega) (by omega);exact this
theorem NW {caps:Int}{runes:Bool}{N:Nat}:∀ l:List Re,(∀ k∈l,GoodC caps (topI runes) k)->∀ f,f+lenL l<N->OkL N caps runes (codeHd l f)
 | [],_,_,_=>OkL.nil
 | k::ks,h,f,hN=>by
   rw[lenL]at hN;rw[codeHd];exact GZ k (h k (by simp)) f (by omega)
end
abbrev prgOf (re:Re) (caps:Int) (runes:Bool):Prg:=⟨codeG re 0++[⟨0,0,0,0,[]⟩],caps,runes⟩
theorem IU {re:Re}{caps:Int}{runes:Bool} (hv:validP ⟨re,caps,runes⟩=0) (hc:codable re=true) (hl:lenG re+1<=8192):validG (prgOf re caps runes)=0/\PrgB (prgOf re caps runes):=by
 obtain⟨hsz,hdp,hc0,hc9,hwg⟩:=CK hv;simp only at hc0 hc9 hwg;have hg:GoodC caps (topI runes) re:=⟨hwg,hc⟩;have hlen:=BE caps (topI runes) re 0 hg;have hok:OkL (lenG re+1) caps runes (codeG re 0++[⟨0,0,0,0,[]⟩]):=OkL.app (GZ re hg 0 (by omega)) (OkL.cons (by simp[okIns]) OkL.nil);have hn:(codeG re 0++[(⟨0,0,0,0,[]⟩:Ins)]).length=lenG re+1:=by simp[hlen]
 have hn':(prgOf re caps runes).ins.length=lenG re+1:=hn;have hb:(prgOf re caps runes).ins.length<=1000000/\∀ i∈(prgOf re caps runes).ins,i.set.length<=1000000:=by
  refine⟨by omega,fun i hi=>?_⟩;have:=hok i hi;simp only[okIns,and_eq_true]at this;obtain⟨⟨⟨⟨h1,_⟩,_⟩,_⟩,h2⟩:=this;by_cases e:i.op=1
  ·have h3:refSpans i.set=0/\lastOk i.set (if runes=true then 1114111 else 255)=true:=by simpa [e] using h2
   have this:=h3.1;unfold refSpans at this;split at this
   ·cases this
   ·split at this
    ·cases this
    ·omega
  ·have:i.set.length=0:=by simpa [e] using h1
   omega
 refine⟨?_,hb⟩
 ·unfold validG;simp only[hn];rw[if_neg (by omega),if_neg (by omega),if_pos];rw[and_eq_true];refine⟨List.all_eq_true.2 hok,?_⟩;simp[lastGood]
end Go.Ev
namespace Go.Ev
attribute [local go_sem] evAppend evBin AV.cells AV.ok frzB Av BG bndO bnd evEq eqCells not_false_eq_true not_true_eq_false Af Array.size_empty List.length_append List.map_append tySzE List.head?_drop Nat.mul_one AR AY AP AS AT Ad
section
theorem Rw (H:List MB):evF Pg pol1 40 14 16 [] H=some (.bool true,H):=by kernel_rfl
theorem sj16 (H:List MB):call Pg pol1 16 [] H=some (.bool true,H):=GD (n:=40) 14 16 _ _ _ (Rw H)
abbrev DO (ins:List Ins) (first:List Nat) (size:Nat) (o:Nat->Prop) (D C:Nat) (a:Lay2) (c:CS) (H:List MB):Prop:=DI ins first size (fun i=>i<H.length/\¬ o i) D C a c H
section
variable {ins:List Ins}{first:List Nat}{size:Nat}{o o1:Nat->Prop}{D C:Nat}{a:Lay2}{c:CS}{H H':List MB}
theorem DO.other (d:DO ins first size o D C a c H) (low:KeepsLow (fun i=>i<H.length/\¬ o1 i) H H') (hd:∀ i,o i->i<H.length/\¬ o1 i):DO ins first size o D C a c H':=by
 have d1:=d.frame low.1 (fun i hp hi=>low.2 i (hd i (Classical.byContradiction fun h=>hp ⟨hi,h⟩)));refine d1.repro (fun i hp=>hp.1) (fun i hp=>?_);by_cases hi:i<H.length
 ·exact d.off ⟨hi,hp.2⟩
 ·exact d.new (by omega)
theorem DO.self (d:DI ins first size (fun i=>i<H.length/\¬ o i) D C a c H') (hl:H.length<=H'.length):DO ins first size (fun i=>o i∨(H.length<=i/\i<H'.length)) D C a c H':=by
 have cond:∀ i,(i<H'.length/\¬ (o i∨(H.length<=i/\i<H'.length)))->i<H.length/\¬ o i:=fun i h=>by
  refine⟨?_,fun h2=>h.2 (.inl h2)⟩;rcases Nat.lt_or_ge i H.length with h3|h3
  ·exact h3
  ·exact absurd (.inr ⟨h3,h.1⟩) h.2
 exact d.repro (fun i hp=>hp.1) (fun i hp=>d.off (cond i hp))
theorem DO.fresh (d:DI ins first size (fun i=>i<H.length) D C a c H'):DO ins first size (fun i=>H.length<=i/\i<H'.length) D C a c H':=by
 refine d.repro (fun i hp=>hp.1) (fun i hp=>d.off ?_);rcases Nat.lt_or_ge i H.length with h3|h3
 ·exact h3
 ·exact absurd ⟨h3,hp.1⟩ hp.2
end
structure Trio (ins:List Ins) (first:List Nat) (n k:Nat) (D1 C1 D2 C2 D3 C3:Nat) (o1 o2 o3:Nat->Prop) (a1 a2 a3:Lay2) (c1 c2 c3:CS) (H:List MB):Prop where
 d1:DO ins first n o1 D1 C1 a1 c1 H
 d2:DO ins first 1 o2 D2 C2 a2 c2 H
 d3:DO ins first k o3 D3 C3 a3 c3 H
 i1:∀ i,o1 i->i<H.length/\¬ o2 i/\¬ o3 i
 i2:∀ i,o2 i->i<H.length/\¬ o3 i
 i3:∀ i,o3 i->i<H.length
section
variable {ins:List Ins}{first:List Nat}{n k:Nat}{D1 C1 D2 C2 D3 C3:Nat}{o1 o2 o3:Nat->Prop}{a1 a2 a3:Lay2}{c1 c2 c3:CS}{H H':List MB}
theorem Trio.run2 (t:Trio ins first n k D1 C1 D2 C2 D3 C3 o1 o2 o3 a1 a2 a3 c1 c2 c3 H) {a:Lay2}{c:CS} (d:DI ins first 1 (fun i=>i<H.length/\¬ o2 i) D2 C2 a c H') (low:KeepsLow (fun i=>i<H.length/\¬ o2 i) H H') :
  Trio ins first n k D1 C1 D2 C2 D3 C3 o1 (fun i=>o2 i∨(H.length<=i/\i<H'.length)) o3 a1 a a3 c1 c c3 H':=by
 have hl:=low.1;refine⟨DO.other t.d1 low (fun i h=>⟨(t.i1 i h).1,(t.i1 i h).2.1⟩),DO.self d hl,DO.other t.d3 low (fun i h=>⟨t.i3 i h,fun h2=>(t.i2 i h2).2 h⟩),fun i h=>?_,fun i h=>?_,fun i h=>by have:=t.i3 i h;omega⟩
 ·have:=t.i1 i h;exact⟨by omega,fun h2=>by rcases h2 with h2|h2;exact this.2.1 h2;omega,this.2.2⟩
 ·rcases h with h|⟨h1,h2⟩
  ·have:=t.i2 i h;exact⟨by omega,this.2⟩
  ·exact⟨h2,fun h=>by have:=t.i3 i h;omega⟩
theorem Trio.new {H1 H2 H3:List MB} (d1:DI ins first n (fun i=>i<H.length) D1 C1 a1 c1 H1) (l1:H.length<=H1.length) (d2:DI ins first 1 (fun i=>i<H1.length) D2 C2 a2 c2 H2) (l2:KeepsLow (fun i=>i<H1.length) H1 H2)
  (d3:DI ins first k (fun i=>i<H2.length) D3 C3 a3 c3 H3) (l3:KeepsLow (fun i=>i<H2.length) H2 H3) :
  Trio ins first n k D1 C1 D2 C2 D3 C3 (fun i=>H.length<=i/\i<H1.length) (fun i=>H1.length<=i/\i<H2.length) (fun i=>H2.length<=i/\i<H3.length) a1 a2 a3 c1 c2 c3 H3:=by
 have q2:=l2.1;have q3:=l3.1;have e1:DO ins first n (fun i=>H.length<=i/\i<H1.length) D1 C1 a1 c1 H2:=
  DO.other (o1:=fun i=>H1.length<=i) (DO.fresh d1) ⟨l2.1,fun i h=>l2.2 i h.1⟩ (fun i h=>⟨h.2,by omega⟩)
 have e2:DO ins first n (fun i=>H.length<=i/\i<H1.length) D1 C1 a1 c1 H3:=
  DO.other (o1:=fun i=>H2.length<=i) e1 ⟨l3.1,fun i h=>l3.2 i h.1⟩ (fun i h=>⟨by omega,by omega⟩)
 have e3:DO ins first 1 (fun i=>H1.length<=i/\i<H2.length) D2 C2 a2 c2 H3:=
  DO.other (o1:=fun i=>H2.length<=i) (DO.fresh d2) ⟨l3.1,fun i h=>l3.2 i h.1⟩ (fun i h=>⟨h.2,by omega⟩)
 exact⟨e2,e3,DO.fresh d3,fun i h=>⟨by omega,by omega,by omega⟩,fun i h=>⟨by omega,by omega⟩,fun i h=>h.2⟩
end
end
section
def No5 (l:List Ins):Prop:=∀ i∈l,i.op≠5
theorem No5.nil:No5 []:=fun i h=>by cases h
theorem No5.cons {x:Ins}{l:List Ins} (h:x.op≠5) (h2:No5 l):No5 (x::l):=fun i hi=>by
 rcases List.mem_cons.1 hi with rfl|hi
 ·exact h
 ·exact h2 i hi
theorem No5.app {l m:List Ins} (h:No5 l) (h2:No5 m):No5 (l++m):=fun i hi=>by
 rcases List.mem_append.1 hi with hi|hi
 ·exact h i hi
 ·exact h2 i hi
theorem No5.flat {l:List Nat}{f:Nat->List Ins} (h:∀ n,No5 (f n)):No5 (l.flatMap f):=fun i hi=>by
 obtain⟨n,_,h2⟩:=List.mem_flatMap.1 hi;exact h n i h2
theorem Nz (md a b:Int):(insSplit md a b).op≠5:=by
 unfold insSplit;split<;>simp
mutual
theorem Dz:∀(r:Re) (f:Nat),noAs r=true->No5 (codeG r f)
 | .mk op set kids mn mx md n neg,f,h=>by
   rw[noAs,and_eq_true]at h;have h11:op≠11:=by simpa using h.1
   have hC:=fun f=>F9 kids f h.2;have hA:=fun f=>GA kids f h.2;have hH:=fun f=>L5 kids f h.2;rw[codeG];by_cases o1:op=1
   ·rw[if_pos o1];exact .cons (by simp) .nil
   rw[if_neg o1,if_neg h11];by_cases o2:op=2
   ·rw[if_pos o2];exact hC f
   rw[if_neg o2];by_cases o3:op=3
   ·rw[if_pos o3];exact hA f
   rw[if_neg o3];by_cases o5:op=5
   ·rw[if_pos o5];exact .cons (by simp) (.app (hH _) (.cons (by simp) .nil))
   rw[if_neg o5];by_cases o4:op=4
   ·rw[if_pos o4];simp only;split
    ·exact .app (.flat fun i=>hH _) (.cons (Nz _ _ _) (.app (hH _) (.cons (by simp) .nil)))
    ·exact .app (.flat fun i=>hH _) (.flat fun j=>.cons (Nz _ _ _) (hH _))
   ·rw[if_neg o4];exact .nil
theorem F9:∀(l:List Re) (f:Nat),noAsL l=true->No5 (codeCat l f)
 | [],f,_=>by rw[codeCat];exact .nil
 | k::ks,f,h=>by
   rw[noAsL,and_eq_true]at h;rw[codeCat];exact .app (Dz k f h.1) (F9 ks _ h.2)
theorem GA:∀(l:List Re) (f:Nat),noAsL l=true->No5 (codeAlt l f)
 | [],f,_=>by rw[codeAlt];exact .nil
 | k::ks,f,h=>by
   rw[noAsL,and_eq_true]at h;rw[codeAlt];split
   ·exact Dz k f h.1
   ·exact .cons (by simp) (.app (Dz k _ h.1) (.cons (by simp) (GA ks _ h.2)))
theorem L5:∀(l:List Re) (f:Nat),noAsL l=true->No5 (codeHd l f)
 | [],f,_=>by rw[codeHd];exact .nil
 | k::ks,f,h=>by
   rw[noAsL,and_eq_true]at h;rw[codeHd];exact Dz k f h.1
end
theorem MH {re:Re}{caps:Int}{runes:Bool} (hv:validP ⟨re,caps,runes⟩=0) (hc:codable re=true) (hl:lenG re+1<=8192) (hn:noAs re=true):acceptG (prgOf re caps runes)=0:=by
 unfold acceptG;rw[if_neg (by rw[(IU hv hc hl).1];simp),if_neg];rw[Bool.not_eq_true,List.any_eq_false];intro i hi;have:=No5.app (Dz re 0 hn) (.cons (x:=⟨0,0,0,0,[]⟩) (by decide) .nil) i hi
 simpa using this
theorem Hp {g:Prg} (h:acceptG g=0):validG g=0/\(∀ i∈g.ins,i.op=0∨i.op=1∨i.op=2∨i.op=3∨i.op=4)/\Leads g.ins/\0<g.ins.length/\g.ins.length<=8192:=by
 unfold acceptG at h;split at h
 ·rename_i h1;exact absurd h h1
 rename_i h1;have hv:validG g=0:=by omega
 split at h
 ·cases h
 rename_i h2;have hv':=hv;unfold validG at hv;split at hv
 ·cases hv
 rename_i h3;split at hv
 ·cases hv
 rename_i h4;split at hv
 ·rename_i h5;rw[and_eq_true,List.all_eq_true]at h5;obtain⟨h5,h6⟩:=h5;refine⟨hv',fun i hi=>?_,fun n i hi=>?_,by omega,by omega⟩
  ·have hm:=h5 i hi;have h7:i.op≠5:=fun h5=>h2 (List.any_eq_true.2 ⟨i,hi,by simp[h5]⟩);simp only[okIns,and_eq_true,or_eq_true,beq_iff_eq,decide_eq_true_eq]at hm;omega
  ·have hm:=h5 i (List.mem_of_getElem? hi);have hlt:=(List.getElem?_eq_some_iff.1 hi).1;simp only[okIns,and_eq_true,or_eq_true,beq_iff_eq,decide_eq_true_eq]at hm;refine⟨by omega,fun h=>by omega,fun h=>by omega,fun h=>?_⟩;rcases Nat.lt_or_ge (n+1) g.ins.length with h7|h7
   ·exact h7
   ·exfalso;obtain rfl:n=g.ins.length-1:=by omega
    simp only[lastGood,hi,or_eq_true,beq_iff_eq]at h6;omega
 ·cases hv
end
section
inductive EWay (ins:List Ins) (b:Nat):Nat->Prop where
 | stop:EWay ins b b
 | sym {n:Nat}{i:Ins}:ins[n]?=some i->i.op=1->EWay ins b n
 | jump {n m:Nat}{i:Ins}:ins[n]?=some i->i.op=3->i.x=(m:Int)->EWay ins b m->EWay ins b n
 | left {n m:Nat}{i:Ins}:ins[n]?=some i->i.op=2->i.x=(m:Int)->EWay ins b m->EWay ins b n
 | right {n m:Nat}{i:Ins}:ins[n]?=some i->i.op=2->i.y=(m:Int)->EWay ins b m->EWay ins b n
 | save {n:Nat}{i:Ins}:ins[n]?=some i->i.op=4->EWay ins b (n+1)->EWay ins b n
theorem EWay.trans {ins:List Ins}{b c:Nat} (h2:EWay ins c b):∀ {n:Nat},EWay ins b n->EWay ins c n:=by
 intro n h
 induction h with
 | stop=>exact h2
 | sym h1 h3=>exact .sym h1 h3
 | jump h1 h3 h4 _ ih=>exact .jump h1 h3 h4 ih
 | left h1 h3 h4 _ ih=>exact .left h1 h3 h4 ih
 | right h1 h3 h4 _ ih=>exact .right h1 h3 h4 ih
 | save h1 h3 _ ih=>exact .save h1 h3 ih
def ELies (ins:List Ins) (f:Nat) (l:List Ins):Prop:=∀(j:Nat) (x:Ins),l[j]?=some x->ins[f+j]?=some x
theorem ELies.left {ins:List Ins}{f:Nat}{a b:List Ins} (h:ELies ins f (a++b)):ELies ins f a:=fun j x hj=>h j x (by
 rw[List.getElem?_append_left (List.getElem?_eq_some_iff.1 hj).1];exact hj)
theorem ELies.right {ins:List Ins}{f n:Nat}{a b:List Ins} (h:ELies ins f (a++b)) (hn:a.length=n):ELies ins (f+n) b:=fun j x hj=>by
 have:=h (n+j) x (by rw[List.getElem?_append_right (by omega),show n+j-a.length=j by omega];exact hj)
 rwa [Nat.add_assoc]
theorem ELies.head {ins:List Ins}{f:Nat}{x:Ins}{l:List Ins} (h:ELies ins f (x::l)):ins[f]?=some x:=h 0 x rfl
theorem ELies.tail {ins:List Ins}{f:Nat}{x:Ins}{l:List Ins} (h:ELies ins f (x::l)):ELies ins (f+1) l:=fun j y hj=>by
 have:=h (j+1) y (by simpa using hj)
 rwa [Nat.add_assoc,Nat.add_comm 1 j]
end
end Go.Ev
