/- Functions of the program, each with what it computes; no further conditions. -/
import Derived.Test.YtjgmfjneajcbmaaGreatC24
import Derived.Test.YtjgmfjneajcbmaaGreatC13
import Derived.Test.YtjgmfjneajcbmaaGreatC18
import Derived.Test.YtjgmfjneajcbmaaGreatC06
import Derived.Test.YtjgmfjneajcbmaaGreatC16
import Derived.Test.YtjgmfjneajcbmaaGreatC21
set_option linter.unusedVariables false
set_option linter.unusedSimpArgs false
namespace Go.Ev
theorem spans_ok {l:List (Int×Int)} {runes:Bool} (h:spansG l (topI runes)=true):refSpans l=0∧lastOk l (if runes then 1114111 else 255)=true:=by
 simp only[spansG,Bool.and_eq_true,decide_eq_true_eq,Bool.not_eq_true']at h
 have ht:=topI_le runes
 have hg:∀ k,k < l.length→badS l (topI runes) k=false:=fun k hk=>by
  have:=List.any_eq_false.1 h.2 k (List.mem_range.2 hk)
  simpa using this
 refine⟨?_,?_⟩
 ·rw[refSpans_good,if_neg (by omega)]
  intro k hk
  have hb:=hg k hk
  obtain⟨p,hp⟩:∃ p,l[k]?=some p:=⟨_,List.getElem?_eq_getElem hk⟩
  simp only[badS,hp,Bool.or_eq_false_iff,decide_eq_false_iff_not]at hb
  simp only[badAt,hp]
  have hd:decide (0≤p.1∧p.1≤p.2∧p.2≤1114111)=true:=by rw[decide_eq_true_eq];omega
  rw[hd]
  cases k with
  | zero=>rfl
  | succ k=>
    obtain⟨q,hq⟩:∃ q,l[k]?=some q:=⟨_,List.getElem?_eq_getElem (by omega)⟩
    have:=hb.2
    simp only[hq,decide_eq_false_iff_not]at this ⊢
    have hd2:decide (p.1 - q.2 < 2)=false:=by rw[decide_eq_false_iff_not];omega
    rw[hd2];rfl
 ·unfold lastOk
  split
  ·rename_i p hp
   have hk:=(List.getElem?_eq_some_iff.1 hp).1
   have hb:=hg _ hk
   simp only[badS,hp,Bool.or_eq_false_iff,decide_eq_false_iff_not]at hb
   have:=hb.1.2
   rw[decide_eq_true_eq]
   unfold topI at this
   omega
  ·rfl
def OkL (N:Nat) (caps:Int) (runes:Bool) (l:List Ins):Prop:=∀ i∈l,okIns N caps runes i=true
theorem OkL.app {N:Nat} {caps:Int} {runes:Bool} {a b:List Ins} (ha:OkL N caps runes a) (hb:OkL N caps runes b):OkL N caps runes (a++b):=fun i hi=>by
 rcases List.mem_append.1 hi with h|h
 ·exact ha i h
 ·exact hb i h
theorem OkL.cons {N:Nat} {caps:Int} {runes:Bool} {x:Ins} {b:List Ins} (ha:okIns N caps runes x=true) (hb:OkL N caps runes b):OkL N caps runes (x::b):=fun i hi=>by
 rcases List.mem_cons.1 hi with rfl|h
 ·exact ha
 ·exact hb i h
theorem OkL.nil {N:Nat} {caps:Int} {runes:Bool}:OkL N caps runes []:=fun i hi=>by simp at hi
theorem OkL.flat {α:Type} {N:Nat} {caps:Int} {runes:Bool} {l:List α} {g:α→List Ins} (h:∀ x∈l,OkL N caps runes (g x)):OkL N caps runes (l.flatMap g):=fun i hi=>by
 obtain⟨x,hx,hi⟩:=List.mem_flatMap.1 hi
 exact h x hx i hi
theorem ok_split {N:Nat} {caps:Int} {runes:Bool} {md:Int} {a b:Nat} (ha:a < N) (hb:b < N):okIns N caps runes (insSplit md (a:Int) (b:Int))=true:=by
 unfold insSplit
 split<;>simp[okIns,ha,hb]
theorem ok_jump {N:Nat} {caps:Int} {runes:Bool} {a:Nat} (ha:a < N):okIns N caps runes ⟨3,(a:Int),0,0,[]⟩=true:=by simp[okIns,ha]
mutual
theorem code_ok {caps:Int} {runes:Bool} {N:Nat}:∀ r:Re,GoodC caps (topI runes) r→∀ f,f+lenG r < N→OkL N caps runes (codeG r f)
 | .mk op set kids mn mx md n neg,h,f,hN=>by
   have hC:=codeCat_ok (N:=N) kids h.kids
   have hA:=codeAlt_ok (N:=N) kids h.kids
   have hH:=codeHd_ok (N:=N) kids h.kids
   obtain⟨hk,hkd,hrp,hcp,_⟩:=whole_facts h.whole
   have hform:formedG caps (topI runes) (.mk op set kids mn mx md n neg)=true:=by
    have:=h.whole
    rw[wholeG,Bool.and_eq_true]at this
    exact this.1
   rw[codeG]
   rw[lenG]at hN
   rcases h.op with rfl|rfl|rfl|rfl|rfl|rfl|rfl
   ·simp;exact OkL.nil
   ·simp only[if_true]
    have hs:spansG set (topI runes)=true:=by
     simp only[formedG,Bool.and_eq_true]at hform
     simpa using hform.1.1.1.2
    obtain⟨s1,s2⟩:=spans_ok hs
    refine OkL.cons ?_ OkL.nil
    simp[okIns,s1,s2]
   ·simp only[show ¬(2:Int)=1 by decide,show ¬(2:Int)=11 by decide,if_false,if_true]
    exact hC f (by simpa using hN)
   ·simp only[show ¬(3:Int)=1 by decide,show ¬(3:Int)=11 by decide,show ¬(3:Int)=2 by decide,if_false,if_true]
    have h2:2≤kids.length:=by simpa [kidsG] using hkd
    exact hA f (by omega) (by simpa using hN)
   ·obtain⟨k,rfl⟩:∃ k,kids=[k]:=List.length_eq_one_iff.1 (by simpa [kidsG] using hkd)
    have hr:=hrp rfl
    simp only[repG,Bool.and_eq_true,Bool.or_eq_true,decide_eq_true_eq,beq_iff_eq]at hr
    simp only[show ¬(4:Int)=1 by decide,show ¬(4:Int)=11 by decide,show ¬(4:Int)=2 by decide,show ¬(4:Int)=3 by decide,show ¬(4:Int)=5 by decide,if_false,if_true,or_self,lenL,codeHd,Nat.add_zero]at hN ⊢
    simp only[codeHd]at hH
    generalize hL:lenG k=L at *
    by_cases hm:mx = -1
    ·simp only[if_pos hm]at hN ⊢
     rw[Nat.succ_mul]at hN
     refine OkL.app (OkL.flat fun i hi=>hH _ ?_) (OkL.cons (ok_split (by omega) (by omega)) (OkL.app (hH _ (by rw[lenL,lenL,hL];omega)) (OkL.cons (ok_jump (by omega)) OkL.nil)))
     have:=Nat.mul_le_mul_right L (show i+1≤mn.toNat by have:=List.mem_range.1 hi;omega)
     rw[Nat.succ_mul]at this
     rw[lenL,lenL,hL];omega
    ·simp only[if_neg hm]at hN ⊢
     obtain⟨e,he⟩:∃ e,mx.toNat=mn.toNat+e:=⟨mx.toNat - mn.toNat,by omega⟩
     rw[he,Nat.add_sub_cancel_left,Nat.add_mul]at hN ⊢
     refine OkL.app (OkL.flat fun i hi=>hH _ ?_) (OkL.flat fun j hj=>?_)
     ·have:=Nat.mul_le_mul_right L (show i+1≤mn.toNat by have:=List.mem_range.1 hi;omega)
      rw[Nat.succ_mul]at this
      rw[lenL,lenL,hL];omega
     ·have h1:=List.mem_range.1 hj
      have:=Nat.mul_le_mul_right L (show j+1≤e by omega)
      rw[Nat.succ_mul]at this
      have h2:j * (L+1)=j * L+j:=by rw[Nat.mul_add,Nat.mul_one]
      exact OkL.cons (ok_split (by omega) (by omega)) (hH _ (by rw[lenL,lenL,hL];omega))
   ·obtain⟨k,rfl⟩:∃ k,kids=[k]:=List.length_eq_one_iff.1 (by simpa [kidsG] using hkd)
    simp only[show ¬(5:Int)=1 by decide,show ¬(5:Int)=11 by decide,show ¬(5:Int)=2 by decide,show ¬(5:Int)=3 by decide,if_false,if_true,or_self]at hN ⊢
    have hc:=hcp (.inl rfl)
    refine OkL.cons ?_ (OkL.app (hH _ (by omega)) (OkL.cons ?_ OkL.nil))
    ·simp[okIns];omega
    ·simp[okIns];omega
   ·simp only[show ¬(11:Int)=1 by decide,if_false,if_true]
    have hs:0≤n∧n≤5:=by
     simp only[formedG,Bool.and_eq_true]at hform
     simpa using hform.1.2
    refine OkL.cons ?_ OkL.nil
    simp[okIns,hs]
theorem codeCat_ok {caps:Int} {runes:Bool} {N:Nat}:∀ l:List Re,(∀ k∈l,GoodC caps (topI runes) k)→∀ f,f+lenL l < N→OkL N caps runes (codeCat l f)
 | [],_,_,_=>OkL.nil
 | k::ks,h,f,hN=>by
   rw[lenL]at hN
   rw[codeCat]
   exact OkL.app (code_ok k (h k (by simp)) f (by omega)) (codeCat_ok ks (fun q hq=>h q (by simp[hq])) _ (by omega))
theorem codeAlt_ok {caps:Int} {runes:Bool} {N:Nat}:∀ l:List Re,(∀ k∈l,GoodC caps (topI runes) k)→∀ f,1≤l.length→f+(lenL l+2 * (l.length - 1)) < N→OkL N caps runes (codeAlt l f)
 | [],_,_,_,_=>OkL.nil
 | k::ks,h,f,_,hN=>by
   rw[codeAlt]
   have hk:=fun f=>code_ok (N:=N) k (h k (by simp)) f
   split
   ·rename_i h0
    have:ks=[]:=List.length_eq_zero_iff.1 h0
    subst this
    exact hk f (by simp[lenL]at hN;omega)
   ·rename_i h0
    have hs:=codeAlt_ok (N:=N) ks (fun q hq=>h q (by simp[hq])) (f+lenG k+2) (by omega)
    simp only[lenL,List.length_cons]at hN
    refine OkL.cons ?_ (OkL.app (hk _ (by omega)) (OkL.cons (ok_jump (by simp only[lenL];omega)) (hs (by omega))))
    have:=ok_split (N:=N) (caps:=caps) (runes:=runes) (md:=0) (a:=f+1) (b:=f+lenG k+2) (by omega) (by omega)
    exact this
theorem codeHd_ok {caps:Int} {runes:Bool} {N:Nat}:∀ l:List Re,(∀ k∈l,GoodC caps (topI runes) k)→∀ f,f+lenL l < N→OkL N caps runes (codeHd l f)
 | [],_,_,_=>OkL.nil
 | k::ks,h,f,hN=>by
   rw[lenL]at hN
   rw[codeHd]
   exact code_ok k (h k (by simp)) f (by omega)
end
abbrev prgOf (re:Re) (caps:Int) (runes:Bool):Prg:=⟨codeG re 0++[⟨0,0,0,0,[]⟩],caps,runes⟩
theorem prg_valid {re:Re} {caps:Int} {runes:Bool} (hv:validP ⟨re,caps,runes⟩=0) (hc:codable re=true) (hl:lenG re+1≤8192):validG (prgOf re caps runes)=0∧PrgB (prgOf re caps runes):=by
 obtain⟨hsz,hdp,hc0,hc9,hwg⟩:=valid_facts hv
 simp only at hc0 hc9 hwg
 have hg:GoodC caps (topI runes) re:=⟨hwg,hc⟩
 have hlen:=codeG_len caps (topI runes) re 0 hg
 have hok:OkL (lenG re+1) caps runes (codeG re 0++[⟨0,0,0,0,[]⟩]):=OkL.app (code_ok re hg 0 (by omega)) (OkL.cons (by simp[okIns]) OkL.nil)
 have hn:(codeG re 0++[(⟨0,0,0,0,[]⟩:Ins)]).length=lenG re+1:=by simp[hlen]
 have hn':(prgOf re caps runes).ins.length=lenG re+1:=hn
 have hb:(prgOf re caps runes).ins.length≤1000000∧∀ i∈(prgOf re caps runes).ins,i.set.length≤1000000:=by
  refine⟨by omega,fun i hi=>?_⟩
  have:=hok i hi
  simp only[okIns,Bool.and_eq_true]at this
  obtain⟨⟨⟨⟨h1,_⟩,_⟩,_⟩,h2⟩:=this
  by_cases e:i.op=1
  ·have h3:refSpans i.set=0∧lastOk i.set (if runes=true then 1114111 else 255)=true:=by simpa [e] using h2
   have this:=h3.1
   unfold refSpans at this
   split at this
   ·cases this
   ·split at this
    ·cases this
    ·omega
  ·have:i.set.length=0:=by simpa [e] using h1
   omega
 refine⟨?_,hb⟩
 ·unfold validG
  simp only[hn]
  rw[if_neg (by omega),if_neg (by omega),if_pos]
  rw[Bool.and_eq_true]
  refine⟨List.all_eq_true.2 hok,?_⟩
  simp[lastGood]
end Go.Ev
namespace Go.Ev
attribute [local go_sem] evAppend evBin AV.cells frzB List.length_append tySzE List.head?_drop Nat.mul_one sameAt_zero sameAt_two sameAt_three sameAt_four sameAt_five room_ok
section
attribute [local go_sem] List.map_append
open Go.Proofs Go.RowKit Go.IntWalk
set_option maxRecDepth 100000
set_option maxHeartbeats 8000000
theorem sj16e (H:List MB):evF Tryz.prog pol1 40 14 16 [] H=some (.bool true,H):=by kernel_rfl
theorem sj16 (H:List MB):call Tryz.prog pol1 16 [] H=some (.bool true,H):=call_of_evF (n:=40) 14 16 _ _ _ (sj16e H)
abbrev DO (ins:List Ins) (first:List Nat) (size:Nat) (o:Nat→Prop) (D C:Nat) (a:Lay2) (c:CS) (H:List MB):Prop:=DI ins first size (fun i=>i < H.length∧¬ o i) D C a c H
section
variable {ins:List Ins} {first:List Nat} {size:Nat} {o o1:Nat→Prop} {D C:Nat} {a:Lay2} {c:CS} {H H':List MB}
theorem DO.other (d:DO ins first size o D C a c H) (low:KeepsLow (fun i=>i < H.length∧¬ o1 i) H H') (hd:∀ i,o i→i < H.length∧¬ o1 i):DO ins first size o D C a c H':=by
 have d1:=d.frame low.1 (fun i hp hi=>low.2 i (hd i (Classical.byContradiction fun h=>hp ⟨hi,h⟩)))
 refine d1.repro (fun i hp=>hp.1) (fun i hp=>?_)
 by_cases hi:i < H.length
 ·exact d.off ⟨hi,hp.2⟩
 ·exact d.new (by omega)
theorem DO.self (d:DI ins first size (fun i=>i < H.length∧¬ o i) D C a c H') (hl:H.length≤H'.length):DO ins first size (fun i=>o i∨(H.length≤i∧i < H'.length)) D C a c H':=by
 have cond:∀ i,(i < H'.length∧¬ (o i∨(H.length≤i∧i < H'.length)))→i < H.length∧¬ o i:=fun i h=>by
  refine⟨?_,fun h2=>h.2 (.inl h2)⟩
  rcases Nat.lt_or_ge i H.length with h3|h3
  ·exact h3
  ·exact absurd (.inr ⟨h3,h.1⟩) h.2
 exact d.repro (fun i hp=>hp.1) (fun i hp=>d.off (cond i hp))
theorem DO.fresh (d:DI ins first size (fun i=>i < H.length) D C a c H'):DO ins first size (fun i=>H.length≤i∧i < H'.length) D C a c H':=by
 refine d.repro (fun i hp=>hp.1) (fun i hp=>d.off ?_)
 rcases Nat.lt_or_ge i H.length with h3|h3
 ·exact h3
 ·exact absurd ⟨h3,hp.1⟩ hp.2
end
structure Trio (ins:List Ins) (first:List Nat) (n k:Nat) (D1 C1 D2 C2 D3 C3:Nat) (o1 o2 o3:Nat→Prop) (a1 a2 a3:Lay2) (c1 c2 c3:CS) (H:List MB):Prop where
 d1:DO ins first n o1 D1 C1 a1 c1 H
 d2:DO ins first 1 o2 D2 C2 a2 c2 H
 d3:DO ins first k o3 D3 C3 a3 c3 H
 i1:∀ i,o1 i→i < H.length∧¬ o2 i∧¬ o3 i
 i2:∀ i,o2 i→i < H.length∧¬ o3 i
 i3:∀ i,o3 i→i < H.length
section
variable {ins:List Ins} {first:List Nat} {n k:Nat} {D1 C1 D2 C2 D3 C3:Nat} {o1 o2 o3:Nat→Prop} {a1 a2 a3:Lay2} {c1 c2 c3:CS} {H H':List MB}
theorem Trio.run1 (t:Trio ins first n k D1 C1 D2 C2 D3 C3 o1 o2 o3 a1 a2 a3 c1 c2 c3 H) {a:Lay2} {c:CS} (d:DI ins first n (fun i=>i < H.length∧¬ o1 i) D1 C1 a c H') (low:KeepsLow (fun i=>i < H.length∧¬ o1 i) H H') :
  Trio ins first n k D1 C1 D2 C2 D3 C3 (fun i=>o1 i∨(H.length≤i∧i < H'.length)) o2 o3 a a2 a3 c c2 c3 H':=by
 have hl:=low.1
 refine⟨DO.self d hl,DO.other t.d2 low (fun i h=>⟨(t.i2 i h).1,fun h2=>(t.i1 i h2).2.1 h⟩),DO.other t.d3 low (fun i h=>⟨t.i3 i h,fun h2=>(t.i1 i h2).2.2 h⟩),fun i h=>?_,fun i h=>⟨by have:=(t.i2 i h).1;omega,(t.i2 i h).2⟩,fun i h=>by have:=t.i3 i h;omega⟩
 rcases h with h|⟨h1,h2⟩
 ·have:=t.i1 i h;exact⟨by omega,this.2⟩
 ·exact⟨h2,fun h=>by have:=(t.i2 i h).1;omega,fun h=>by have:=t.i3 i h;omega⟩
theorem Trio.run2 (t:Trio ins first n k D1 C1 D2 C2 D3 C3 o1 o2 o3 a1 a2 a3 c1 c2 c3 H) {a:Lay2} {c:CS} (d:DI ins first 1 (fun i=>i < H.length∧¬ o2 i) D2 C2 a c H') (low:KeepsLow (fun i=>i < H.length∧¬ o2 i) H H') :
  Trio ins first n k D1 C1 D2 C2 D3 C3 o1 (fun i=>o2 i∨(H.length≤i∧i < H'.length)) o3 a1 a a3 c1 c c3 H':=by
 have hl:=low.1
 refine⟨DO.other t.d1 low (fun i h=>⟨(t.i1 i h).1,(t.i1 i h).2.1⟩),DO.self d hl,DO.other t.d3 low (fun i h=>⟨t.i3 i h,fun h2=>(t.i2 i h2).2 h⟩),fun i h=>?_,fun i h=>?_,fun i h=>by have:=t.i3 i h;omega⟩
 ·have:=t.i1 i h
  exact⟨by omega,fun h2=>by rcases h2 with h2|h2;exact this.2.1 h2;omega,this.2.2⟩
 ·rcases h with h|⟨h1,h2⟩
  ·have:=t.i2 i h;exact⟨by omega,this.2⟩
  ·exact⟨h2,fun h=>by have:=t.i3 i h;omega⟩
theorem Trio.run3 (t:Trio ins first n k D1 C1 D2 C2 D3 C3 o1 o2 o3 a1 a2 a3 c1 c2 c3 H) {a:Lay2} {c:CS} (d:DI ins first k (fun i=>i < H.length∧¬ o3 i) D3 C3 a c H') (low:KeepsLow (fun i=>i < H.length∧¬ o3 i) H H') :
  Trio ins first n k D1 C1 D2 C2 D3 C3 o1 o2 (fun i=>o3 i∨(H.length≤i∧i < H'.length)) a1 a2 a c1 c2 c H':=by
 have hl:=low.1
 refine⟨DO.other t.d1 low (fun i h=>⟨(t.i1 i h).1,(t.i1 i h).2.2⟩),DO.other t.d2 low (fun i h=>⟨(t.i2 i h).1,(t.i2 i h).2⟩),DO.self d hl,fun i h=>?_,fun i h=>?_,fun i h=>?_⟩
 ·have:=t.i1 i h
  exact⟨by omega,this.2.1,fun h2=>by rcases h2 with h2|h2;exact this.2.2 h2;omega⟩
 ·have:=t.i2 i h
  exact⟨by omega,fun h2=>by rcases h2 with h2|h2;exact this.2 h2;omega⟩
 ·rcases h with h|⟨h1,h2⟩
  ·have:=t.i3 i h;omega
  ·exact h2
theorem Trio.new {H1 H2 H3:List MB} (d1:DI ins first n (fun i=>i < H.length) D1 C1 a1 c1 H1) (l1:H.length≤H1.length) (d2:DI ins first 1 (fun i=>i < H1.length) D2 C2 a2 c2 H2) (l2:KeepsLow (fun i=>i < H1.length) H1 H2)
  (d3:DI ins first k (fun i=>i < H2.length) D3 C3 a3 c3 H3) (l3:KeepsLow (fun i=>i < H2.length) H2 H3) :
  Trio ins first n k D1 C1 D2 C2 D3 C3 (fun i=>H.length≤i∧i < H1.length) (fun i=>H1.length≤i∧i < H2.length) (fun i=>H2.length≤i∧i < H3.length) a1 a2 a3 c1 c2 c3 H3:=by
 have q2:=l2.1
 have q3:=l3.1
 have e1:DO ins first n (fun i=>H.length≤i∧i < H1.length) D1 C1 a1 c1 H2:=
  DO.other (o1:=fun i=>H1.length≤i) (DO.fresh d1) ⟨l2.1,fun i h=>l2.2 i h.1⟩ (fun i h=>⟨h.2,by omega⟩)
 have e2:DO ins first n (fun i=>H.length≤i∧i < H1.length) D1 C1 a1 c1 H3:=
  DO.other (o1:=fun i=>H2.length≤i) e1 ⟨l3.1,fun i h=>l3.2 i h.1⟩ (fun i h=>⟨by omega,by omega⟩)
 have e3:DO ins first 1 (fun i=>H1.length≤i∧i < H2.length) D2 C2 a2 c2 H3:=
  DO.other (o1:=fun i=>H2.length≤i) (DO.fresh d2) ⟨l3.1,fun i h=>l3.2 i h.1⟩ (fun i h=>⟨h.2,by omega⟩)
 exact⟨e2,e3,DO.fresh d3,fun i h=>⟨by omega,by omega,by omega⟩,fun i h=>⟨by omega,by omega⟩,fun i h=>h.2⟩
end
end
section
attribute [local go_sem] List.map_append
open Go.Proofs Go.RowKit Go.IntWalk
set_option maxRecDepth 100000
set_option maxHeartbeats 4000000
def No5 (l:List Ins):Prop:=∀ i∈l,i.op≠5
theorem No5.nil:No5 []:=fun i h=>by cases h
theorem No5.cons {x:Ins} {l:List Ins} (h:x.op≠5) (h2:No5 l):No5 (x::l):=fun i hi=>by
 rcases List.mem_cons.1 hi with rfl|hi
 ·exact h
 ·exact h2 i hi
theorem No5.app {l m:List Ins} (h:No5 l) (h2:No5 m):No5 (l++m):=fun i hi=>by
 rcases List.mem_append.1 hi with hi|hi
 ·exact h i hi
 ·exact h2 i hi
theorem No5.flat {l:List Nat} {f:Nat→List Ins} (h:∀ n,No5 (f n)):No5 (l.flatMap f):=fun i hi=>by
 obtain⟨n,_,h2⟩:=List.mem_flatMap.1 hi
 exact h n i h2
theorem split5 (md a b:Int):(insSplit md a b).op≠5:=by
 unfold insSplit;split<;>simp
mutual
theorem code_no5:∀(r:Re) (f:Nat),noAs r=true→No5 (codeG r f)
 | .mk op set kids mn mx md n neg,f,h=>by
   rw[noAs,Bool.and_eq_true]at h
   have h11:op≠11:=by simpa using h.1
   have hC:=fun f=>codeCat_no5 kids f h.2
   have hA:=fun f=>codeAlt_no5 kids f h.2
   have hH:=fun f=>codeHd_no5 kids f h.2
   rw[codeG]
   by_cases o1:op=1
   ·rw[if_pos o1];exact .cons (by simp) .nil
   rw[if_neg o1,if_neg h11]
   by_cases o2:op=2
   ·rw[if_pos o2];exact hC f
   rw[if_neg o2]
   by_cases o3:op=3
   ·rw[if_pos o3];exact hA f
   rw[if_neg o3]
   by_cases o5:op=5
   ·rw[if_pos o5];exact .cons (by simp) (.app (hH _) (.cons (by simp) .nil))
   rw[if_neg o5]
   by_cases o4:op=4
   ·rw[if_pos o4]
    simp only
    split
    ·exact .app (.flat fun i=>hH _) (.cons (split5 _ _ _) (.app (hH _) (.cons (by simp) .nil)))
    ·exact .app (.flat fun i=>hH _) (.flat fun j=>.cons (split5 _ _ _) (hH _))
   ·rw[if_neg o4];exact .nil
theorem codeCat_no5:∀(l:List Re) (f:Nat),noAsL l=true→No5 (codeCat l f)
 | [],f,_=>by rw[codeCat];exact .nil
 | k::ks,f,h=>by
   rw[noAsL,Bool.and_eq_true]at h
   rw[codeCat]
   exact .app (code_no5 k f h.1) (codeCat_no5 ks _ h.2)
theorem codeAlt_no5:∀(l:List Re) (f:Nat),noAsL l=true→No5 (codeAlt l f)
 | [],f,_=>by rw[codeAlt];exact .nil
 | k::ks,f,h=>by
   rw[noAsL,Bool.and_eq_true]at h
   rw[codeAlt]
   split
   ·exact code_no5 k f h.1
   ·exact .cons (by simp) (.app (code_no5 k _ h.1) (.cons (by simp) (codeAlt_no5 ks _ h.2)))
theorem codeHd_no5:∀(l:List Re) (f:Nat),noAsL l=true→No5 (codeHd l f)
 | [],f,_=>by rw[codeHd];exact .nil
 | k::ks,f,h=>by
   rw[noAsL,Bool.and_eq_true]at h
   rw[codeHd]
   exact code_no5 k f h.1
end
theorem accept_prg {re:Re} {caps:Int} {runes:Bool} (hv:validP ⟨re,caps,runes⟩=0) (hc:codable re=true) (hl:lenG re+1≤8192) (hn:noAs re=true):acceptG (prgOf re caps runes)=0:=by
 unfold acceptG
 rw[if_neg (by rw[(prg_valid hv hc hl).1];simp),if_neg]
 rw[Bool.not_eq_true,List.any_eq_false]
 intro i hi
 have:=No5.app (code_no5 re 0 hn) (.cons (x:=⟨0,0,0,0,[]⟩) (by decide) .nil) i hi
 simpa using this
theorem acc_facts4 {g:Prg} (h:acceptG g=0):validG g=0∧(∀ i∈g.ins,i.op=0∨i.op=1∨i.op=2∨i.op=3∨i.op=4)∧Leads g.ins∧0 < g.ins.length∧g.ins.length≤8192:=by
 unfold acceptG at h
 split at h
 ·rename_i h1;exact absurd h h1
 rename_i h1
 have hv:validG g=0:=by omega
 split at h
 ·cases h
 rename_i h2
 have hv':=hv
 unfold validG at hv
 split at hv
 ·cases hv
 rename_i h3
 split at hv
 ·cases hv
 rename_i h4
 split at hv
 ·rename_i h5
  rw[Bool.and_eq_true,List.all_eq_true]at h5
  obtain⟨h5,h6⟩:=h5
  refine⟨hv',fun i hi=>?_,fun n i hi=>?_,by omega,by omega⟩
  ·have hm:=h5 i hi
   have h7:i.op≠5:=fun h5=>h2 (List.any_eq_true.2 ⟨i,hi,by simp[h5]⟩)
   simp only[okIns,Bool.and_eq_true,Bool.or_eq_true,beq_iff_eq,decide_eq_true_eq]at hm
   omega
  ·have hm:=h5 i (List.mem_of_getElem? hi)
   have hlt:=(List.getElem?_eq_some_iff.1 hi).1
   simp only[okIns,Bool.and_eq_true,Bool.or_eq_true,beq_iff_eq,decide_eq_true_eq]at hm
   refine⟨by omega,fun h=>by omega,fun h=>by omega,fun h=>?_⟩
   rcases Nat.lt_or_ge (n+1) g.ins.length with h7|h7
   ·exact h7
   ·exfalso
    obtain rfl:n=g.ins.length - 1:=by omega
    simp only[lastGood,hi,Bool.or_eq_true,beq_iff_eq]at h6
    omega
 ·cases hv
end
section
attribute [local go_sem] List.map_append
open Go.Proofs Go.RowKit Go.IntWalk
set_option maxRecDepth 100000
set_option maxHeartbeats 4000000
inductive EWay (ins:List Ins) (b:Nat):Nat→Prop where
 | stop:EWay ins b b
 | sym {n:Nat} {i:Ins}:ins[n]?=some i→i.op=1→EWay ins b n
 | jump {n m:Nat} {i:Ins}:ins[n]?=some i→i.op=3→i.x=(m:Int)→EWay ins b m→EWay ins b n
 | left {n m:Nat} {i:Ins}:ins[n]?=some i→i.op=2→i.x=(m:Int)→EWay ins b m→EWay ins b n
 | right {n m:Nat} {i:Ins}:ins[n]?=some i→i.op=2→i.y=(m:Int)→EWay ins b m→EWay ins b n
 | save {n:Nat} {i:Ins}:ins[n]?=some i→i.op=4→EWay ins b (n+1)→EWay ins b n
theorem EWay.trans {ins:List Ins} {b c:Nat} (h2:EWay ins c b):∀ {n:Nat},EWay ins b n→EWay ins c n:=by
 intro n h
 induction h with
 | stop=>exact h2
 | sym h1 h3=>exact .sym h1 h3
 | jump h1 h3 h4 _ ih=>exact .jump h1 h3 h4 ih
 | left h1 h3 h4 _ ih=>exact .left h1 h3 h4 ih
 | right h1 h3 h4 _ ih=>exact .right h1 h3 h4 ih
 | save h1 h3 _ ih=>exact .save h1 h3 ih
def ELies (ins:List Ins) (f:Nat) (l:List Ins):Prop:=∀(j:Nat) (x:Ins),l[j]?=some x→ins[f+j]?=some x
theorem ELies.left {ins:List Ins} {f:Nat} {a b:List Ins} (h:ELies ins f (a++b)):ELies ins f a:=fun j x hj=>h j x (by
 rw[List.getElem?_append_left (List.getElem?_eq_some_iff.1 hj).1];exact hj)
theorem ELies.right {ins:List Ins} {f n:Nat} {a b:List Ins} (h:ELies ins f (a++b)) (hn:a.length=n):ELies ins (f+n) b:=fun j x hj=>by
 have:=h (n+j) x (by rw[List.getElem?_append_right (by omega),show n+j - a.length=j by omega];exact hj)
 rwa [Nat.add_assoc]
theorem ELies.head {ins:List Ins} {f:Nat} {x:Ins} {l:List Ins} (h:ELies ins f (x::l)):ins[f]?=some x:=h 0 x rfl
theorem ELies.tail {ins:List Ins} {f:Nat} {x:Ins} {l:List Ins} (h:ELies ins f (x::l)):ELies ins (f+1) l:=fun j y hj=>by
 have:=h (j+1) y (by simpa using hj)
 rwa [Nat.add_assoc,Nat.add_comm 1 j]
theorem way_copies {ins:List Ins} {g:Nat→List Ins} {L:Nat}:∀ {m f:Nat},(∀ i,(g i).length=L)→(∀ i,ELies ins (f+i * L) (g i)→EWay ins (f+i * L+L) (f+i * L))→ELies ins f ((List.range m).flatMap g)→EWay ins (f+m * L) f
 | 0,f,_,_,_=>by rw[Nat.zero_mul,Nat.add_zero];exact .stop
 | m+1,f,hL,hw,hl=>by
   rw[List.range_succ,List.flatMap_append]at hl
   have h1:=way_copies (m:=m) hL hw hl.left
   have h2:=hl.right (flat_len g L m (fun i _=>hL i))
   simp only[List.flatMap_cons,List.flatMap_nil,List.append_nil]at h2
   have h3:=hw m h2
   rw[Nat.succ_mul,← Nat.add_assoc]
   exact h3.trans h1
theorem split_end {ins:List Ins} {n:Nat} {md:Int} {a e:Nat} (h:ins[n]?=some (insSplit md (a:Int) (e:Int))):EWay ins e n:=by
 unfold insSplit at h
 split at h
 ·exact .left h rfl rfl .stop
 ·exact .right h rfl rfl .stop
mutual
theorem code_way {ins:List Ins} {caps top:Int}:∀(r:Re) (f:Nat),GoodC caps top r→noAs r=true→ELies ins f (codeG r f)→EWay ins (f+lenG r) f
 | .mk op set kids mn mx md n neg,f,hw,hn,hl=>by
   rw[noAs,Bool.and_eq_true]at hn
   have h11:op≠11:=by simpa using hn.1
   have hop:=hw.op
   obtain⟨_,hkd,hrp,_,ho1,ho2⟩:=whole_facts hw.whole
   have hwk:=hw.kids
   rw[codeG]at hl
   rw[lenG]
   by_cases o1:op=1
   ·rw[if_pos o1]at hl
    exact .sym hl.head rfl
   rw[if_neg o1,if_neg h11]at hl
   rw[if_neg (show ¬ (op=1∨op=11) by omega)]
   by_cases o2:op=2
   ·rw[if_pos o2]at hl
    rw[if_neg (show ¬ op=3 by omega),if_neg (show ¬ op=5 by omega),if_neg (show ¬ op=4 by omega)]
    exact codeCat_way kids f hwk hn.2 hl
   rw[if_neg o2]at hl
   by_cases o3:op=3
   ·subst o3
    rw[if_pos rfl]at hl ⊢
    exact codeAlt_way kids f hwk hn.2 (by simpa [kidsG] using hkd) hl
   rw[if_neg o3]at hl ⊢
   have hone:op=4∨op=5→∃ k,kids=[k]:=fun e=>by
    refine List.length_eq_one_iff.1 ?_
    rcases e with rfl|rfl<;>simpa [kidsG] using hkd
   by_cases o5:op=5
   ·rw[if_pos o5]at hl ⊢
    obtain⟨k,rfl⟩:=hone (.inr o5)
    have hgk:=hwk k (by simp)
    have hnk:noAs k=true:=by have:=hn.2;rw[noAsL,Bool.and_eq_true]at this;exact this.1
    simp only[codeHd]at hl
    have hb:=codeHd_way [k] (f+1) hwk hn.2 hl.tail.left
    have he:=(hl.tail.right (codeG_len caps top k (f+1) hgk)).head
    refine .save hl.head rfl (EWay.trans (b:=f+1+lenG k) ?_ hb)
    have:f+(lenL [k]+2)=f+1+lenG k+1:=by simp[lenL];omega
    rw[this]
    exact .save he rfl .stop
   rw[if_neg o5]at hl ⊢
   by_cases o4:op=4
   ·rw[if_pos o4]at hl ⊢
    obtain⟨k,rfl⟩:=hone (.inl o4)
    have hgk:=hwk k (by simp)
    have hr:=hrp o4
    simp only[repG,Bool.and_eq_true,Bool.or_eq_true,decide_eq_true_eq,beq_iff_eq]at hr
    have hlen:∀ g,(codeG k g).length=lenG k:=fun g=>codeG_len caps top k g hgk
    have hkk:∀ g,ELies ins g (codeG k g)→EWay ins (g+lenG k) g:=fun g h=>codeHd_way [k] g hwk hn.2 h
    simp only[lenL,codeHd,Nat.add_zero]at hl ⊢
    by_cases hm:mx = -1
    ·rw[if_pos hm]at hl ⊢
     have h1:=way_copies (L:=lenG k) (fun i=>hlen _) (fun i h=>hkk _ h) hl.left
     have h2:=(hl.right (flat_len _ (lenG k) mn.toNat (fun i _=>hlen _))).head
     have h3:=split_end h2
     rw[Nat.succ_mul,show f+(mn.toNat * lenG k+lenG k+2)=f+mn.toNat * lenG k+lenG k+2 by omega]
     exact h3.trans h1
    ·rw[if_neg hm]at hl ⊢
     have h1:=way_copies (L:=lenG k) (fun i=>hlen _) (fun i h=>hkk _ h) hl.left
     have h2:=hl.right (flat_len _ (lenG k) mn.toNat (fun i _=>hlen _))
     rw[show f+(mx.toNat * lenG k+(mx.toNat - mn.toNat))=f+mx.toNat * lenG k+(mx.toNat - mn.toNat) by omega]
     obtain⟨e,he⟩:∃ e,mx.toNat=mn.toNat+e:=⟨mx.toNat - mn.toNat,by omega⟩
     cases e with
     | zero=>
       rw[he,Nat.add_zero,Nat.sub_self,Nat.add_zero]
       exact h1
     | succ e=>
       have he2:mx.toNat - mn.toNat=e+1:=by omega
       rw[he2]at h2 ⊢
       have h3:=h2 0 _ (by rw[List.range_succ_eq_map,List.flatMap_cons];rfl)
       rw[Nat.add_zero]at h3
       exact(split_end h3).trans h1
   ·have hk0:kids=[]:=by
     have:op=0:=by omega
     subst this
     exact List.length_eq_zero_iff.1 (by simpa [kidsG] using hkd)
    rw[if_neg o4,hk0]
    exact .stop
theorem codeCat_way {ins:List Ins} {caps top:Int}:∀(l:List Re) (f:Nat),(∀ k∈l,GoodC caps top k)→noAsL l=true→ELies ins f (codeCat l f)→EWay ins (f+lenL l) f
 | [],f,_,_,_=>.stop
 | k::ks,f,h,hn,hl=>by
   rw[noAsL,Bool.and_eq_true]at hn
   rw[codeCat]at hl
   have hk:=h k (List.mem_cons_self ..)
   have h1:=code_way k f hk hn.1 hl.left
   have h2:=codeCat_way ks (f+lenG k) (fun q hq=>h q (List.mem_cons_of_mem _ hq)) hn.2 (hl.right (codeG_len caps top k f hk))
   rw[lenL,← Nat.add_assoc]
   exact h2.trans h1
theorem codeAlt_way {ins:List Ins} {caps top:Int}:∀(l:List Re) (f:Nat),(∀ k∈l,GoodC caps top k)→noAsL l=true→2≤l.length→ELies ins f (codeAlt l f)→EWay ins (f+(lenL l+2 * (l.length - 1))) f
 | [],f,_,_,h,_=>by simp at h
 | k::ks,f,h,hn,h2,hl=>by
   rw[noAsL,Bool.and_eq_true]at hn
   rw[codeAlt,if_neg (by simp at h2;omega)]at hl
   have hk:=h k (List.mem_cons_self ..)
   have hb:=code_way k (f+1) hk hn.1 hl.tail.left
   have he:=(hl.tail.right (codeG_len caps top k (f+1) hk)).head
   refine .left hl.head rfl rfl (EWay.trans (b:=f+1+lenG k) ?_ hb)
   have:f+(lenL (k::ks)+2 * ((k::ks).length - 1))=f+lenL (k::ks)+2 * ks.length:=by simp;omega
   rw[this]
   exact .jump he rfl rfl .stop
theorem codeHd_way {ins:List Ins} {caps top:Int}:∀(l:List Re) (f:Nat),(∀ k∈l,GoodC caps top k)→noAsL l=true→(match l with
  | []=>True
  | k::_=>ELies ins f (codeG k f)→EWay ins (f+lenG k) f)
 | [],f,_,_=>trivial
 | k::ks,f,h,hn=>by
   rw[noAsL,Bool.and_eq_true]at hn
   exact code_way k f (h k (List.mem_cons_self ..)) hn.1
end
def EAdd (s:VS) (n:Nat):Prop:=s.a[n]?=some true
def EFoll (ins:List Ins) (n m:Nat):Prop:=∃ i,ins[n]?=some i∧((i.op=3∧m=i.x.toNat)∨(i.op=2∧(m=i.x.toNat∨m=i.y.toNat))∨(i.op=4∧m=n+1))
theorem visit_c (ins:List Ins):∀(k n:Nat) (s:VS),s.c=true→visit ins k n s=s
 | 0,n,s,h=>rfl
 | k+1,n,s,h=>by simp only[visit];rw[if_pos (.inl h)]
structure EDone (ins:List Ins) (n:Nat) (s s':VS):Prop where
 grow:∀ m,EAdd s m→EAdd s' m
 self:n < s.a.length→EAdd s' n
 next:∀ m,EAdd s' m→¬ EAdd s m→∀ q,EFoll ins m q→q < s.a.length→EAdd s' q
 len:s'.a.length=s.a.length
theorem add_mark {s:VS} {n m:Nat} (h:EAdd s m):EAdd (s.mark n) m:=by
 unfold EAdd VS.mark at *
 simp only
 by_cases e:n=m
 ·subst e;rw[List.getElem?_set_self (List.getElem?_eq_some_iff.1 h).1]
 ·rw[List.getElem?_set_ne e];exact h
theorem mark_add {s:VS} {n m:Nat} (h:EAdd (s.mark n) m):m=n∨EAdd s m:=by
 unfold EAdd VS.mark at *
 simp only at h
 by_cases e:n=m
 ·exact .inl e.symm
 ·rw[List.getElem?_set_ne e]at h;exact .inr h
theorem mark_self {s:VS} {n:Nat} (h:n < s.a.length):EAdd (s.mark n) n:=by
 unfold EAdd VS.mark;simp only;rw[List.getElem?_set_self h]
theorem mark_len (s:VS) (n:Nat):(s.mark n).a.length=s.a.length:=by simp[VS.mark]
theorem visit_done {ins:List Ins}:∀(k n:Nat) (s:VS),s.Ok ins.length→s.open < k→(visit ins k n s).c=false→EDone ins n s (visit ins k n s)
 | 0,n,s,_,h,_=>by omega
 | k+1,n,s,hok,ho,hc=>by
   by_cases hst:s.c=true∨s.a[n]?≠some false
   ·have e:visit ins (k+1) n s=s:=by simp only[visit];rw[if_pos hst]
    rw[e]at hc ⊢
    refine⟨fun _ h=>h,fun hn=>?_,fun m h1 h2=>absurd h1 h2,rfl⟩
    rcases hst with h|h
    ·rw[h]at hc;cases hc
    ·unfold EAdd
     rw[List.getElem?_eq_getElem hn]at h ⊢
     cases hb:s.a[n] with
     | true=>rfl
     | false=>rw[hb]at h;exact absurd rfl h
   ·have hn:s.a[n]?=some false:=by
     by_cases e:s.a[n]?=some false
     ·exact e
     ·exact absurd (.inr e) hst
    have hnl:=(List.getElem?_eq_some_iff.1 hn).1
    have hom:=open_mark hn
    obtain⟨i,hi⟩:∃ i,ins[n]?=some i:=⟨_,List.getElem?_eq_getElem (by rw[← hok.len];exact hnl)⟩
    have hv:visit ins (k+1) n s=if i.op=0 then s.found n true else if i.op=1 then s.found n false else if i.op=3 then visit ins k i.x.toNat (s.mark n) else if i.op=2 then visit ins k i.y.toNat (visit ins k i.x.toNat (s.mark n)) else if i.op=4 then visit ins k (n+1) (s.mark n) else s.mark n:=by
     simp only[visit];rw[if_neg hst,hi]
    have fo:∀ q,EFoll ins n q→(i.op=3∧q=i.x.toNat)∨(i.op=2∧(q=i.x.toNat∨q=i.y.toNat))∨(i.op=4∧q=n+1):=fun q ⟨j,h1,h2⟩=>by
     rw[hi]at h1;rw[Option.some.inj h1];exact h2
    have one:∀(x:Nat) (s':VS),EDone ins x (s.mark n) s'→(∀ q,EFoll ins n q→q < s.a.length→EAdd s' q)→EDone ins n s s':=fun x s' d hf=>by
     refine⟨fun m h=>d.grow m (add_mark h),fun _=>d.grow n (mark_self hnl),fun m h1 h2 q hq hql=>?_,by rw[d.len,mark_len]⟩
     by_cases hm:EAdd (s.mark n) m
     ·rcases mark_add hm with rfl|h3
      ·exact hf q hq hql
      ·exact absurd h3 h2
     ·exact d.next m h1 hm q hq (by rw[mark_len];exact hql)
    have mk:∀ s':VS,s' = s.mark n∨s'.a=(s.mark n).a→(i.op≠2∧i.op≠3∧i.op≠4)→EDone ins n s s':=fun s' h ho=>by
     have ha:s'.a=(s.mark n).a:=by
      rcases h with h|h
      ·rw[h]
      ·exact h
     have e:∀ m,EAdd s' m↔EAdd (s.mark n) m:=fun m=>by unfold EAdd;rw[ha]
     refine⟨fun m h=>(e m).2 (add_mark h),fun _=>(e n).2 (mark_self hnl),fun m h1 h2 q hq hql=>?_,by rw[ha,mark_len]⟩
     rcases mark_add ((e m).1 h1) with rfl|h3
     ·have:=fo q hq;omega
     ·exact absurd h3 h2
    rw[hv]at hc ⊢
    by_cases q0:i.op=0
    ·rw[if_pos q0]at hc;cases hc
    rw[if_neg q0]at hc ⊢
    by_cases q1:i.op=1
    ·rw[if_pos q1]at hc ⊢
     exact mk _ (.inr rfl) (by omega)
    rw[if_neg q1]at hc ⊢
    by_cases q3:i.op=3
    ·rw[if_pos q3]at hc ⊢
     have d:=visit_done k i.x.toNat (s.mark n) hok.mark (by omega) hc
     exact one _ _ d fun q hq hql=>by
      have:=fo q hq
      have hqx:q=i.x.toNat:=by omega
      rw[hqx];exact d.self (by rw[mark_len,← hqx];exact hql)
    rw[if_neg q3]at hc ⊢
    by_cases q2:i.op=2
    ·rw[if_pos q2]at hc ⊢
     have hok1:=(hok.mark (n:=n)).visit (ins:=ins) (k:=k) (n:=i.x.toNat)
     have hc1:(visit ins k i.x.toNat (s.mark n)).c=false:=by
      cases hb:(visit ins k i.x.toNat (s.mark n)).c with
      | false=>rfl
      | true=>rw[visit_c ins k _ _ hb,hb]at hc;cases hc
     have d1:=visit_done k i.x.toNat (s.mark n) hok.mark (by omega) hc1
     have d2:=visit_done k i.y.toNat _ hok1.1 (by omega) hc
     have d:EDone ins i.x.toNat (s.mark n) (visit ins k i.y.toNat (visit ins k i.x.toNat (s.mark n))):=by
      refine⟨fun m h=>d2.grow m (d1.grow m h),fun h=>d2.grow _ (d1.self h),fun m h1 h2 q hq hql=>?_,by rw[d2.len,d1.len]⟩
      by_cases hm:EAdd (visit ins k i.x.toNat (s.mark n)) m
      ·exact d2.grow q (d1.next m hm h2 q hq hql)
      ·exact d2.next m h1 hm q hq (by rw[d1.len];exact hql)
     exact one _ _ d fun q hq hql=>by
      have:=fo q hq
      have hqx:q=i.x.toNat∨q=i.y.toNat:=by omega
      rcases hqx with hqx|hqx
      ·rw[hqx];exact d.self (by rw[mark_len,← hqx];exact hql)
      ·rw[hqx];exact d2.self (by rw[d1.len,mark_len,← hqx];exact hql)
    rw[if_neg q2]at hc ⊢
    by_cases q4:i.op=4
    ·rw[if_pos q4]at hc ⊢
     have d:=visit_done k (n+1) (s.mark n) hok.mark (by omega) hc
     exact one _ _ d fun q hq hql=>by
      have:=fo q hq
      have hqx:q=n+1:=by omega
      rw[hqx];exact d.self (by rw[mark_len,← hqx];exact hql)
    rw[if_neg q4]at hc ⊢
    exact mk _ (.inl rfl) (by omega)
def EFound (ins:List Ins) (s:VS):Prop:=(∀ n i,EAdd s n→ins[n]?=some i→i.op=0∨i.op=1→n∈s.r)∧(s.c=true→s.r≠[])
theorem found_mark {ins:List Ins} {s:VS} {n:Nat} {i:Ins} (h:EFound ins s) (hi:ins[n]?=some i) (ho:i.op≠0∧i.op≠1):EFound ins (s.mark n):=by
 refine⟨fun m j hm hj hop=>?_,h.2⟩
 rcases mark_add hm with rfl|h1
 ·rw[hi]at hj;rw[← Option.some.inj hj]at hop;omega
 ·exact h.1 m j h1 hj hop
theorem visit_found {ins:List Ins}:∀(k n:Nat) (s:VS),s.Ok ins.length→EFound ins s→EFound ins (visit ins k n s)
 | 0,n,s,_,h=>h
 | k+1,n,s,hok,h=>by
   by_cases hst:s.c=true∨s.a[n]?≠some false
   ·have e:visit ins (k+1) n s=s:=by simp only[visit];rw[if_pos hst]
    rw[e];exact h
   ·have hn:s.a[n]?=some false:=by
     by_cases e:s.a[n]?=some false
     ·exact e
     ·exact absurd (.inr e) hst
    have hnl:=(List.getElem?_eq_some_iff.1 hn).1
    obtain⟨i,hi⟩:∃ i,ins[n]?=some i:=⟨_,List.getElem?_eq_getElem (by rw[← hok.len];exact hnl)⟩
    have hv:visit ins (k+1) n s=if i.op=0 then s.found n true else if i.op=1 then s.found n false else if i.op=3 then visit ins k i.x.toNat (s.mark n) else if i.op=2 then visit ins k i.y.toNat (visit ins k i.x.toNat (s.mark n)) else if i.op=4 then visit ins k (n+1) (s.mark n) else s.mark n:=by
     simp only[visit];rw[if_neg hst,hi]
    have ff:∀ c,EFound ins (s.found n c):=fun c=>by
     refine⟨fun m j hm hj hop=>?_,fun _=>by simp[VS.found]⟩
     have hm':EAdd (s.mark n) m:=hm
     rcases mark_add hm' with rfl|h1
     ·simp[VS.found]
     ·exact List.mem_append_left _ (h.1 m j h1 hj hop)
    rw[hv]
    by_cases q0:i.op=0
    ·rw[if_pos q0];exact ff _
    rw[if_neg q0]
    by_cases q1:i.op=1
    ·rw[if_pos q1];exact ff _
    rw[if_neg q1]
    have hm:=found_mark h hi ⟨q0,q1⟩
    by_cases q3:i.op=3
    ·rw[if_pos q3];exact visit_found k _ _ hok.mark hm
    rw[if_neg q3]
    by_cases q2:i.op=2
    ·rw[if_pos q2]
     exact visit_found k _ _ ((hok.mark (n:=n)).visit (ins:=ins) (k:=k) (n:=i.x.toNat)).1 (visit_found k _ _ hok.mark hm)
    rw[if_neg q2]
    by_cases q4:i.op=4
    ·rw[if_pos q4];exact visit_found k _ _ hok.mark hm
    rw[if_neg q4]
    exact hm
theorem state_pos {ins:List Ins} (h0:0 < ins.length) {b:Nat} {i:Ins} (hb:ins[b]?=some i) (hop:i.op=0) (hw:EWay ins b 0) (hl:∀ n i,ins[n]?=some i→(i.op=2∨i.op=3→i.x.toNat < ins.length)∧(i.op=2→i.y.toNat < ins.length)∧(i.op=4→n+1 < ins.length)):stateL ins [0]≠[]:=by
 intro he
 unfold stateL at he
 rw[visits_one]at he
 have ok0:=vs0_ok ins.length
 have hnew:∀ n,¬ EAdd (vs0 ins.length) n:=fun n h=>by
  unfold EAdd vs0 at h
  simp only at h
  rw[List.getElem?_replicate]at h
  split at h<;>cases h
 have hf:=visit_found (ins.length+1) 0 (vs0 ins.length) ok0 ⟨fun n j hn=>absurd hn (hnew n),fun h=>by simp[vs0]at h⟩
 have hc:(visit ins (ins.length+1) 0 (vs0 ins.length)).c=false:=by
  cases hb:(visit ins (ins.length+1) 0 (vs0 ins.length)).c with
  | false=>rfl
  | true=>exact absurd he (hf.2 hb)
 have hd:=visit_done (ins.length+1) 0 (vs0 ins.length) ok0 (by rw[vs0_open];omega) hc
 have hlen:(vs0 ins.length).a.length=ins.length:=by simp[vs0]
 have key:∀ n,EWay ins b n→EAdd (visit ins (ins.length+1) 0 (vs0 ins.length)) n→False:=by
  intro n h
  have fin:∀ n j,ins[n]?=some j→(j.op=0∨j.op=1)→EAdd (visit ins (ins.length+1) 0 (vs0 ins.length)) n→False:=fun n j hj ho ha=>by
   have:=hf.1 n j ha hj ho
   rw[he]at this;cases this
  induction h with
  | stop=>exact fin _ _ hb (.inl hop)
  | sym h1 h2=>exact fin _ _ h1 (.inr h2)
  | jump h1 h2 h3 _ ih=>
    exact fun ha=>ih (hd.next _ ha (hnew _) _ ⟨_,h1,.inl ⟨h2,by rw[h3];rfl⟩⟩ (by rw[hlen];have:=(hl _ _ h1).1 (.inr h2);rw[h3]at this;exact this))
  | left h1 h2 h3 _ ih=>
    exact fun ha=>ih (hd.next _ ha (hnew _) _ ⟨_,h1,.inr (.inl ⟨h2,.inl (by rw[h3];rfl)⟩)⟩ (by rw[hlen];have:=(hl _ _ h1).1 (.inl h2);rw[h3]at this;exact this))
  | right h1 h2 h3 _ ih=>
    exact fun ha=>ih (hd.next _ ha (hnew _) _ ⟨_,h1,.inr (.inl ⟨h2,.inr (by rw[h3];rfl)⟩)⟩ (by rw[hlen];have:=(hl _ _ h1).2.1 h2;rw[h3]at this;exact this))
  | save h1 h2 _ ih=>
    exact fun ha=>ih (hd.next _ ha (hnew _) _ ⟨_,h1,.inr (.inr ⟨h2,rfl⟩)⟩ (by rw[hlen];exact(hl _ _ h1).2.2 h2))
 exact key 0 hw (hd.self (by rw[hlen];exact h0))
theorem first_pos {re:Re} {caps:Int} {runes:Bool} (hv:validP ⟨re,caps,runes⟩=0) (hc:codable re=true) (hl:lenG re+1≤8192) (hn:noAs re=true):stateL (prgOf re caps runes).ins [0]≠[]:=by
 obtain⟨_,_,_,_,hwg⟩:=valid_facts hv
 have hg:GoodC caps (topI runes) re:=⟨hwg,hc⟩
 have hlen:=codeG_len caps (topI runes) re 0 hg
 have hli:ELies (prgOf re caps runes).ins 0 (codeG re 0++[⟨0,0,0,0,[]⟩]):=fun j x hj=>by rw[Nat.zero_add];exact hj
 have hw:=code_way re 0 hg hn hli.left
 have he:=(hli.right hlen).head
 obtain⟨_,_,hle,h0,_⟩:=acc_facts4 (accept_prg (runes:=runes) hv hc hl hn)
 refine state_pos h0 he rfl hw fun n i hi=>?_
 obtain⟨a,b,c,d⟩:=hle n i hi
 exact⟨fun h=>(b h).2,fun h=>(c h).2,fun h=>d (.inr (.inl h))⟩
end
section
open Go.Proofs Go.RowKit Go.IntWalk
set_option maxRecDepth 100000
set_option maxHeartbeats 8000000
theorem ofK_nilp5:ofK (.pointer none)=.nilp:=rfl
theorem full_cases {g:Prg} (hga:acceptG g=0) (h0:0≤topG g):fullA g=(0,4)∨∃ cls,splitA (readG g.ins) (endsR (readG g.ins) (topG g)) (topG g)=some cls∧(statesFrom g.ins (repsA cls) 0 (meetL [] (stateL g.ins [0]))).length≤1024∧fullA g=((statesFrom g.ins (repsA cls) 0 (meetL [] (stateL g.ins [0]))).length,0):=by
 unfold fullA
 rw[if_neg (by simp[hga])]
 split
 ·exact .inl rfl
 ·cases hs:splitA (readG g.ins) (endsR (readG g.ins) (topG g)) (topG g) with
  | none=>exact .inl rfl
  | some cls=>
    simp only
    split
    ·exact .inl rfl
    ·rename_i h2
     exact .inr ⟨cls,rfl,by omega,rfl⟩
abbrev txA5 (x:List Int):AV:=.sl false (x.map I)
structure QT where
 i:Nat
 H:List MB
 a1:Lay2
 a2:Lay2
 a3:Lay2
 c1:CS
 c2:CS
 c3:CS
 o1:Nat→Prop
 o2:Nat→Prop
 o3:Nat→Prop
theorem kf5 (l m k:List Int) (cache:Int) (hl:∀ x∈l,In64 x) (hm:∀ x∈m,In64 x) (hk:∀ x∈k,In64 x) (hc:In64 cache) (H:List MB):call Tryz.prog pol1 5 [.sl false (l.map I),.sl false (m.map I),.sl false (k.map I),I cache] H=some (.bool true,H):=by
 obtain⟨_,⟨cap,re,caps,xs,hfit,hcomp,hna,rfl⟩,hc7⟩:=f31n l m hl hm false
 have hna:=hna rfl
 have hxl:=hfit.tl
 have hc24:=f14 ⟨re,caps,false⟩ hfit.wt
 have hcp:compP ⟨re,caps,false⟩=(prgOf re caps false,0):=by
  unfold compP
  rw[if_pos hfit.val,if_pos hcomp,if_pos (by have:=hfit.len;simp only;omega)]
 rw[hcp]at hc24
 simp only at hc24
 have hcod:=codable_of re [] hcomp
 have hlen8:lenG re+1≤8192:=by have:=hfit.len;omega
 obtain⟨hgv,hgb⟩:=prg_valid hfit.val hcod hlen8
 have hga:=accept_prg (runes:=false) hfit.val hcod hlen8 hna
 have hfp:=first_pos (runes:=false) hfit.val hcod hlen8 hna
 obtain⟨_,hgo,hgw,hg0,hgN⟩:=acc_facts4 hga
 have htop:topG (prgOf re caps false)=255:=rfl
 generalize hg:prgOf re caps false=g at *
 have hc13:=sf13 g hgb
 have hfc:=full_cases hga (by rw[htop];decide)
 rw[htop]at hfc
 have hrd:=readG_ok hgv
 have hc16:=sj16
 have hpl:=plain_ints l
 have hpm:=plain_ints m
 have hpk:=plain_ints k
 refine call_run Tryz.func5 rfl rfl rfl rfl rfl rfl (fun _=>rfl) (by simp[AV.plain,AV.plainL,hpl,hpm,hpk]) (by simp[AV.plain]) ?_ H
 have hl8:=reC_len re
 have hpok:(patC ⟨re,caps,false⟩).all AV.ok=true:=by have:=reC_ok re;simp[patC,List.all_append,this,AV.ok]
 have htk:List.take 10 (patC ⟨re,caps,false⟩)=patC ⟨re,caps,false⟩:=List.take_of_length_le (by simp[patC,reC_len])
 rcases hfc with hfa|⟨cls,hcls,hR1024,hfa⟩
 ·rw[hfa]at hc13
  simp +contextual (disch:=omega) only[Tryz.f5,dd5,go_sem,↓reduceIte,List.reduceReplicate,Nat.reduceAdd,Nat.reduceSub,reduceCtorEq,Nat.reduceLeDiff,Nat.reduceMul,Nat.reduceLT,Nat.reduceEqDiff,Int.reduceBNe,Int.reduceBEq,Int.reduceEq,Int.reduceLT,Int.reduceLE,Int.reduceGT,Int.reduceGE,List.map_append,mu5,Nat.reduceBEq,↓wrap_up,↓wrap_down,↓wrap_pred,↓wrap_sub_nat,Int.reduceToNat,hl8,hpok,htk,hc7,hc24,hc13,hc16,bne_self_eq_false,beq_self_eq_true,true_implies]
  exact fzEq rfl rfl
 ·rw[hfa]at hc13
  have hrep:=fun x (hx:0≤x∧x≤255)=>rep_of (x:=x) (by decide) (fun s hs=>(hrd s hs).1) hcls hx
  have hclo:=states_closed hR1024
  have hfR:stateL g.ins [0]∈statesFrom g.ins (repsA cls) 0 (meetL [] (stateL g.ins [0])):=by
   obtain⟨q,e⟩:=explore_pre g.ins (repsA cls) (1025 - 0) 0 (meetL [] (stateL g.ins [0]))
   unfold statesFrom
   rw[e]
   refine List.mem_append_left _ ?_
   rcases meetL_has [] (stateL g.ins [0]) with h|h
   ·exact absurd h hfp
   ·exact h
  have hRpos:1≤(statesFrom g.ins (repsA cls) 0 (meetL [] (stateL g.ins [0]))).length:=List.length_pos_of_mem hfR
  generalize statesFrom g.ins (repsA cls) 0 (meetL [] (stateL g.ins [0]))=R at *
  have hc10:=f12 cache 1024 hc (by omega)
  have har:=around_lt (n:=cache) (m:=1024) (by omega)
  obtain⟨q,hq⟩:∃ q:Nat,aroundI cache 1024=q:=⟨(aroundI cache 1024).toNat,by omega⟩
  rw[hq]at hc10 har
  have hw:IntKind.i64.wrap (1+(q:Int))=((q+1:Nat):Int):=by rw[i64_in]<;>omega
  have hc19:∀ H,call Tryz.prog pol1 19 [.sl false (k.map I),I 30] H=some (.sl false ((textI k 30).map I),H):=kf17t k hk 30 (by omega)
  have htl:(textI k 30).length≤30:=by rw[textI,textN_len];omega
  have hti:=textI_in k 30
  generalize textI k 30=tx at *
  obtain⟨_,⟨D1,C1,H1,a1,rfl,d1,low1⟩,hn1⟩:=kf9n g hgb hgw hg0 hgN R.length ⟨hRpos,hR1024⟩ [.row 10 [patAV ⟨re,caps,false⟩] 0,.row 3 [prgAV g] 0] hga
  obtain⟨_,⟨D2,C2,H2,a2,rfl,d2,low2⟩,hn2⟩:=kf9n g hgb hgw hg0 hgN 1 ⟨by omega,by omega⟩ H1 hga
  obtain⟨_,⟨D3,C3,H3,a3,rfl,d3,low3⟩,hn3⟩:=kf9n g hgb hgw hg0 hgN (q+1) ⟨by omega,by omega⟩ H2 hga
  have hn2:call Tryz.prog pol1 18 [prgAV g,I 1] H1=some (.tup [.rf D2 1 0 0,I 0],H2):=hn2
  have hl1:=low1.1
  have hl2:=low2.1
  simp only[List.length_cons,List.length_nil]at hl1
  have hb1:H1[1]?=some (.row 3 [prgAV g] 0):=low1.2 1 (by show 1 < 2;omega)
  have hb2:H2[1]?=some (.row 3 [prgAV g] 0):=by rw[low2.2 1 (by show 1 < H1.length;omega)];exact hb1
  have trio:=Trio.new d1 low1.1 d2 low2 d3 low3
  obtain⟨hso,hss⟩:=stateL_ok g.ins [0]
  have hio:InsOk g.ins:=⟨hgN,hgw,hgb.2⟩
  have hxr:∀ x∈xs,0≤x∧x≤255:=hfit.txt
  have htr:∀ x∈tx,0≤x∧x≤255:=fun x hx=>by have:=hti x hx;omega
  simp +contextual (disch:=omega) only[Tryz.f5,dd5,go_sem,↓reduceIte,List.reduceReplicate,Nat.reduceAdd,Nat.reduceSub,reduceCtorEq,Nat.reduceLeDiff,Nat.reduceMul,Nat.reduceLT,Nat.reduceEqDiff,Int.reduceBNe,Int.reduceBEq,Int.reduceEq,Int.reduceLT,Int.reduceLE,Int.reduceGT,Int.reduceGE,mu5,Nat.reduceBEq,↓wrap_up,↓wrap_down,↓wrap_pred,↓wrap_sub_nat,Int.reduceToNat,hl8,hpok,htk,hc7,hc24,hc13,hc10,hw,hc19,hn1,hn2,hn3,hb1,hb2,evEq,ofK_nilp5,bne_self_eq_false,beq_self_eq_true,true_implies]
  refine⟨by unfold dOk;kernel_rfl,by kernel_rfl,?_⟩
  refine W_for (σ:=QT) (M:=(mskOf (pol1.mask 5) (pol1.gc 5) (pol1.acts 5) 0 15)) rfl (fun x=>(⟨216,[(22,I x.i),(21,.sl true [txA5 xs,txA5 tx,txA5 xs]),(19,.rf D3 1 0 0),(17,.rf D2 1 0 0),(15,.rf D1 1 0 0),(13,I R.length)],x.H⟩:St))
   (fun x=>x.i≤3∧Trio g.ins (stateL g.ins [0]) R.length (q+1) D1 C1 D2 C2 D3 C3 x.o1 x.o2 x.o3 x.a1 x.a2 x.a3 x.c1 x.c2 x.c3 x.H∧Three R x.c1 x.c3 x.c2∧(x.c1.made≤10000 * x.i∧x.c2.made≤10000 * x.i∧x.c3.made≤10000 * x.i)∧(x.i=0∨stateL g.ins [0]∈x.c1.L)) (fun x=>3 - x.i)
   ⟨0,H3,a1,a2,a3,⟨[],0,0⟩,⟨[],0,0⟩,⟨[],0,0⟩,_,_,_⟩ ?_ ⟨by simp,trio,Three.zero R,⟨by simp,by simp,by simp⟩,.inl rfl⟩ _ rfl
  rintro⟨i,K,b1,b2,b3,c1,c2,c3,o1,o2,o3⟩ ⟨q1,t0,th,⟨m1,m2,m3⟩,q5⟩
  simp only at q1 t0 th m1 m2 m3 q5 ⊢
  by_cases hi:i < 3
  ·obtain⟨zs,hz,hzl,hzr⟩:∃ zs:List Int,([txA5 xs,txA5 tx,txA5 xs]:List AV)[i]?=some (txA5 zs)∧zs.length≤30∧∀ x∈zs,0≤x∧x≤255:=by
    have:i=0∨i=1∨i=2:=by omega
    rcases this with rfl|rfl|rfl
    ·exact⟨xs,rfl,by omega,hxr⟩
    ·exact⟨tx,rfl,by omega,htr⟩
    ·exact⟨xs,rfl,by omega,hxr⟩
   obtain⟨_,⟨K1,b1',rfl,e1,lw1⟩,hr1⟩:=kf20e t0.d1 hio hso hss zs (by omega) (by omega)
   have t1:=t0.run1 e1 lw1
   obtain⟨_,⟨K2,b2',rfl,e2,lw2⟩,hr2⟩:=kf20e t1.d2 hio hso hss zs (by omega) (by omega)
   have t2:=t1.run2 e2 lw2
   obtain⟨_,⟨K3,b3',rfl,e3,lw3⟩,hr3⟩:=kf20e t2.d3 hio hso hss zs (by omega) (by omega)
   have t3:=t2.run3 e3 lw3
   have hmul:(zs.length+1) * (zs.length+1)≤31 * 31:=Nat.mul_le_mul (by omega) (by omega)
   have u1:=endsC_made g.ins R.length (stateL g.ins [0]) zs c1 (zs.length+1)
   have u2:=endsC_made g.ins 1 (stateL g.ins [0]) zs c2 (zs.length+1)
   have u3:=endsC_made g.ins (q+1) (stateL g.ins [0]) zs c3 (zs.length+1)
   have hS:=seqE_in hclo hrep (.inr hfR) hzr (zs.length+1)
   have th2:=th.needs (k:=q+1) hS
   have hkeep:=(th.full.keeps hS).2 (stateL g.ins [0]) (by simp[seqE]) hfp
   rw[← endsC_seq]at hkeep
   rw[← endsC_seq,← endsC_seq,← endsC_seq]at th2
   have hel:=endsL_len g.ins (stateL g.ins [0]) zs
   have hc25:=kf25i (endsL g.ins (stateL g.ins [0]) zs) (endsL g.ins (stateL g.ins [0]) zs) (by omega) (by omega)
   have hdec:decide (endsL g.ins (stateL g.ins [0]) zs=endsL g.ins (stateL g.ins [0]) zs)=true:=decide_eq_true rfl
   rw[hdec]at hc25
   generalize endsL g.ins (stateL g.ins [0]) zs=EL at *
   generalize endsC g.ins R.length (stateL g.ins [0]) zs c1 (zs.length+1)=c1' at *
   generalize endsC g.ins 1 (stateL g.ins [0]) zs c2 (zs.length+1)=c2' at *
   generalize endsC g.ins (q+1) (stateL g.ins [0]) zs c3 (zs.length+1)=c3' at *
   simp +contextual (disch:=omega) only[Tryz.f5,dd5,go_sem,↓reduceIte,List.reduceReplicate,Nat.reduceAdd,Nat.reduceSub,reduceCtorEq,Nat.reduceLeDiff,Nat.reduceMul,Nat.reduceLT,Nat.reduceEqDiff,Int.reduceBNe,Int.reduceBEq,Int.reduceEq,Int.reduceLT,Int.reduceLE,Int.reduceGT,Int.reduceGE,List.map_append,mu5,Nat.reduceBEq,↓wrap_up,↓wrap_down,↓wrap_pred,↓wrap_sub_nat,Int.reduceToNat,hz,hr1,hr2,hr3,hc25,bne_self_eq_false,beq_self_eq_true,true_implies]
   exact⟨⟨i+1,K3,b1',b2',b3',c1',c2',c3',_,_,_⟩,⟨hi,t3,th2,⟨by simp only;omega,by simp only;omega,by simp only;omega⟩,.inr hkeep⟩,by show 3 - (i+1) < 3 - i;omega,rfl⟩
  ·have hi3:i=3:=by omega
   subst hi3
   have s1:=kf12s t0.d1
   have s2:=kf12s t0.d2
   have s3:=kf12s t0.d3
   have hf1:stateL g.ins [0]∈c1.L:=q5.resolve_left (by omega)
   have g1:c1.emptied=0:=th.full.emp
   have g2:c1.made=c1.L.length:=th.full.made
   have g3:0 < c1.L.length:=List.length_pos_of_mem hf1
   have g4:c1.L.length≤R.length:=sub_len th.full.nodup th.full.sub
   have g5:=th.le
   have g6:=th.le2
   have g7:=th.emp
   have g8:=th.one
   have g9:0 < c2.L.length:=by
    rcases Nat.eq_zero_or_pos c2.L.length with h|h
    ·have:=th.ne (List.length_eq_zero_iff.1 h);omega
    ·exact h
   have g10:c2.emptied=c2.made - 1:=by omega
   simp +contextual (disch:=omega) only[Tryz.f5,dd5,go_sem,↓reduceIte,List.reduceReplicate,Nat.reduceAdd,Nat.reduceSub,reduceCtorEq,Nat.reduceLeDiff,Nat.reduceMul,Nat.reduceLT,Nat.reduceEqDiff,Int.reduceBNe,Int.reduceBEq,Int.reduceEq,Int.reduceLT,Int.reduceLE,Int.reduceGT,Int.reduceGE,List.map_append,mu5,Nat.reduceBEq,↓wrap_up,↓wrap_down,↓wrap_pred,↓wrap_sub_nat,Int.reduceToNat,s1,s2,s3,hc16,bne_self_eq_false,beq_self_eq_true,true_implies]
   exact fzEq rfl rfl
end
end Go.Ev
