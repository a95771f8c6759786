/- Functions of the program, each with what it computes; no further conditions. -/
import Derived.Test.YtjgmfjneajcbmaaGreatC13
import Derived.Test.YtjgmfjneajcbmaaGreatC06
set_option linter.unusedVariables false
set_option linter.unusedSimpArgs false
/- The reference's search for a state: the plain laws. -/
namespace Go.Ev
open Go.Proofs Go.RowKit Go.IntWalk
def rvisit (ins:List Ins):Nat→Nat→List Nat×List Nat→List Nat×List Nat
 | 0,_,s=>s
 | k+1,n,s=>
   if n∈s.2 then s
   else match ins[n]? with
    | none=>s
    | some i=>
      if i.op=2 then rvisit ins k i.y.toNat (rvisit ins k i.x.toNat (s.1,s.2++[n]))
      else if i.op=3 then rvisit ins k i.x.toNat (s.1,s.2++[n])
      else if i.op=4 then rvisit ins k (n+1) (s.1,s.2++[n])
      else(s.1++[n],s.2++[n])
def rvisits (ins:List Ins) (k:Nat) (ns:List Nat) (s:List Nat×List Nat):List Nat×List Nat:=ns.foldl (fun s n=>rvisit ins k n s) s
def isDone (ins:List Ins) (n:Nat):Bool:=match ins[n]? with
 | some i=>i.op == 0
 | none=>false
def kcutL (ins:List Ins):List Nat→List Nat
 | []=>[]
 | n::l=>n::(if isDone ins n=true then [] else kcutL ins l)
theorem kcutL_end {ins:List Ins} {n:Nat} (hn:isDone ins n=true):∀ {l:List Nat},(∀ n∈l,isDone ins n=false)→kcutL ins (l++[n])=l++[n]
 | [],_=>by simp[kcutL]
 | m::l,h=>by
   have h1:=h m (.head _)
   simp only[List.cons_append,kcutL,h1,Bool.false_eq_true,if_false]
   rw[kcutL_end hn fun m hm=>h m (.tail _ hm)]
theorem kcutL_more {ins:List Ins} (m:List Nat):∀ {l:List Nat},(∃ n∈l,isDone ins n=true)→kcutL ins (l++m)=kcutL ins l
 | [],h=>by obtain⟨n,hn,_⟩:=h;cases hn
 | n::l,h=>by
   simp only[List.cons_append,kcutL]
   split
   ·rfl
   ·rename_i h1
    rw[kcutL_more m]
    obtain⟨x,hx,hd⟩:=h
    rcases List.mem_cons.1 hx with rfl|hx
    ·exact absurd hd h1
    ·exact⟨x,hx,hd⟩
theorem rvisit_pre (ins:List Ins):∀(k n:Nat) (s:List Nat×List Nat),∃ m,(rvisit ins k n s).1=s.1++m
 | 0,n,s=>⟨[],by simp[rvisit]⟩
 | k+1,n,s=>by
   simp only[rvisit]
   split
   ·exact⟨[],by simp⟩
   split
   ·exact⟨[],by simp⟩
   rename_i i hi
   split
   ·obtain⟨m1,h1⟩:=rvisit_pre ins k i.x.toNat (s.1,s.2++[n])
    obtain⟨m2,h2⟩:=rvisit_pre ins k i.y.toNat (rvisit ins k i.x.toNat (s.1,s.2++[n]))
    exact⟨m1++m2,by rw[h2,h1,List.append_assoc]⟩
   split
   ·exact rvisit_pre ins k i.x.toNat (s.1,s.2++[n])
   split
   ·exact rvisit_pre ins k (n+1) (s.1,s.2++[n])
   ·exact⟨[n],rfl⟩
structure RV (ins:List Ins) (v:VS) (s:List Nat×List Nat):Prop where
 len:v.a.length=ins.length
 c:v.c=true→kcutL ins s.1=v.r∧∃ n∈s.1,isDone ins n=true
 o:v.c=false→s.1=v.r∧(∀ n∈s.1,isDone ins n=false)∧∀ n,v.a[n]?=some true↔n∈s.2
theorem RV.mark {ins:List Ins} {v:VS} {s:List Nat×List Nat} (h:RV ins v s) (hc:v.c=false) {n:Nat} (hn:n < ins.length):RV ins (v.mark n) (s.1,s.2++[n]):=by
 obtain⟨o1,o2,o3⟩:=h.o hc
 refine⟨by simp[VS.mark,h.len],fun h1=>?_,fun _=>⟨o1,o2,fun m=>?_⟩⟩
 ·have:v.c=true:=h1
  rw[hc]at this;cases this
 ·simp only[VS.mark,List.mem_append,List.mem_singleton]
  by_cases e:n=m
  ·subst e
   rw[List.getElem?_set_self (by rw[h.len];exact hn)]
   simp
  ·rw[List.getElem?_set_ne e,o3 m]
   exact⟨.inl,fun h=>h.resolve_right (Ne.symm e)⟩
theorem RV.visit {ins:List Ins} (ho:∀ i∈ins,i.op=0∨i.op=1∨i.op=2∨i.op=3∨i.op=4):∀ {k n:Nat} {v:VS} {s:List Nat×List Nat},RV ins v s→RV ins (visit ins k n v) (rvisit ins k n s)
 | 0,n,v,s,h=>h
 | k+1,n,v,s,h=>by
   by_cases hc:v.c=true
   ·obtain⟨c1,c2⟩:=h.c hc
    have e:Go.Ev.visit ins (k+1) n v=v:=by simp only[Go.Ev.visit];rw[if_pos (.inl hc)]
    obtain⟨m,hm⟩:=rvisit_pre ins (k+1) n s
    rw[e]
    refine⟨h.len,fun _=>⟨by rw[hm,kcutL_more m c2];exact c1,?_⟩,fun h1=>by rw[hc]at h1;cases h1⟩
    obtain⟨x,hx,hd⟩:=c2
    exact⟨x,by rw[hm];exact List.mem_append_left _ hx,hd⟩
   ·have hc':v.c=false:=by simpa using hc
    obtain⟨o1,o2,o3⟩:=h.o hc'
    simp only[Go.Ev.visit,rvisit]
    by_cases hs:n∈s.2
    ·rw[if_pos hs,if_pos (.inr (by rw[(o3 n).2 hs];simp))];exact h
    ·rw[if_neg hs]
     cases hi:ins[n]? with
     | none=>
       simp only
       have:Go.Ev.visit ins (k+1) n v=v:=by
        simp only[Go.Ev.visit]
        split
        ·rfl
        ·simp only[hi]
       split<;>exact h
     | some i=>
       have hn:=(List.getElem?_eq_some_iff.1 hi).1
       have ha:v.a[n]?=some false:=by
        obtain⟨b,hb⟩:∃ b,v.a[n]?=some b:=⟨_,List.getElem?_eq_getElem (by rw[h.len];exact hn)⟩
        cases b with
        | true=>exact absurd ((o3 n).1 hb) hs
        | false=>exact hb
       have hmk:=h.mark hc' hn
       rw[if_neg (by simp[hc',ha])]
       simp only
       have hd:isDone ins n=(i.op == 0):=by simp[isDone,hi]
       by_cases h0:i.op=0
       ·rw[if_pos h0,if_neg (by omega),if_neg (by omega),if_neg (by omega)]
        refine⟨by simp[VS.found,h.len],fun _=>⟨?_,n,by simp,by simp[hd,h0]⟩,fun h1=>by cases h1⟩
        rw[kcutL_end (by simp[hd,h0]) o2,o1];rfl
       ·rw[if_neg h0]
        by_cases h1:i.op=1
        ·rw[if_pos h1,if_neg (by omega),if_neg (by omega),if_neg (by omega)]
         obtain⟨p1,p2,p3⟩:=hmk.o hc'
         refine⟨hmk.len,fun h2=>(by cases h2),fun _=>⟨by simp[VS.found,o1],fun m hm=>?_,p3⟩⟩
         rcases List.mem_append.1 hm with hm|hm
         ·exact o2 m hm
         ·rw[List.mem_singleton.1 hm,hd];simp[h0]
        ·rw[if_neg h1]
         by_cases h3:i.op=3
         ·rw[if_pos h3,if_neg (by omega),if_pos h3]
          exact RV.visit ho hmk
         ·rw[if_neg h3]
          by_cases h2:i.op=2
          ·rw[if_pos h2,if_pos h2]
           exact RV.visit ho (RV.visit ho hmk)
          ·have h4:i.op=4:=by have:=ho i (List.mem_of_getElem? hi);omega
           rw[if_neg h2,if_pos h4,if_neg h2,if_neg h3,if_pos h4]
           exact RV.visit ho hmk
theorem RV.visits {ins:List Ins} (ho:∀ i∈ins,i.op=0∨i.op=1∨i.op=2∨i.op=3∨i.op=4) {k:Nat}:∀ {ns:List Nat} {v:VS} {s:List Nat×List Nat},RV ins v s→RV ins (visits ins k ns v) (rvisits ins k ns s)
 | [],v,s,h=>h
 | n::ns,v,s,h=>RV.visits ho (ns:=ns) (h.visit ho)
structure ROk (N:Nat) (s:List Nat×List Nat):Prop where
 lt:∀ n∈s.2,n < N
 nodup:s.2.Nodup
 one:s.1.length≤s.2.length
 sub:∀ n∈s.1,n < N
theorem ROk.small {N:Nat} {s:List Nat×List Nat} (h:ROk N s):s.2.length≤N:=nodup_len h.nodup h.lt
theorem ROk.mark {N n:Nat} {s:List Nat×List Nat} (h:ROk N s) (hn:n < N) (hs:n ∉ s.2):ROk N (s.1,s.2++[n]):=
 ⟨fun m hm=>by
   rcases List.mem_append.1 hm with h1|h1
   ·exact h.lt m h1
   ·rw[List.mem_singleton.1 h1];exact hn,
  List.nodup_append.2 ⟨h.nodup,by simp,fun x hx y hy e=>by rw[List.mem_singleton.1 hy]at e;exact hs (e ▸ hx)⟩,
  by have:=h.one;simp;omega,h.sub⟩
theorem ROk.visit {ins:List Ins}:∀ {k n:Nat} {s:List Nat×List Nat},ROk ins.length s→ROk ins.length (rvisit ins k n s)∧s.2.length≤(rvisit ins k n s).2.length
 | 0,n,s,h=>⟨h,Nat.le_refl _⟩
 | k+1,n,s,h=>by
   simp only[rvisit]
   split
   ·exact⟨h,Nat.le_refl _⟩
   rename_i hs
   split
   ·exact⟨h,Nat.le_refl _⟩
   rename_i i hi
   have hn:=(List.getElem?_eq_some_iff.1 hi).1
   have hm:=h.mark hn hs
   split
   ·have h1:=ROk.visit (k:=k) (n:=i.x.toNat) hm
    have h2:=ROk.visit (k:=k) (n:=i.y.toNat) h1.1
    exact⟨h2.1,by have:=h1.2;have:=h2.2;simp at *;omega⟩
   split
   ·have h1:=ROk.visit (k:=k) (n:=i.x.toNat) hm
    exact⟨h1.1,by have:=h1.2;simp at *;omega⟩
   split
   ·have h1:=ROk.visit (k:=k) (n:=n+1) hm
    exact⟨h1.1,by have:=h1.2;simp at *;omega⟩
   ·refine⟨⟨hm.lt,hm.nodup,by have:=h.one;simp;omega,fun m hm'=>?_⟩,by simp⟩
    rcases List.mem_append.1 hm' with h1|h1
    ·exact h.sub m h1
    ·rw[List.mem_singleton.1 h1];exact hn
theorem ROk.visits {ins:List Ins} {k:Nat}:∀ {ns:List Nat} {s:List Nat×List Nat},ROk ins.length s→ROk ins.length (rvisits ins k ns s)
 | [],s,h=>h
 | n::ns,s,h=>ROk.visits (ns:=ns) (h.visit (k:=k) (n:=n)).1
end Go.Ev
namespace Go.Ev
attribute [local go_sem] evBin AV.cells List.length_append List.map_append tySzE List.head?_drop Nat.mul_one sameAt_zero sameAt_two sameAt_three sameAt_four sameAt_five room_ok
section
attribute [local go_sem] evAppend frzB
open Go.Proofs Go.RowKit Go.IntWalk
set_option maxRecDepth 100000
set_option maxHeartbeats 8000000
structure CS where
 L:List (List Nat)
 made:Nat
 emptied:Nat
def CS.need (c:CS) (size:Nat) (l:List Nat):CS:=
 if l=[] then c
 else if l∈c.L then c
 else if c.L.length=size then⟨[l],c.made+1,c.emptied+1⟩
 else⟨c.L++[l],c.made+1,c.emptied⟩
structure Lay2 where
 st:Nat→Option (List Nat×Nat)
 nx:Nat→Option (List Nat)
def Lay2.le (a b:Lay2):Prop:=(∀ i x,a.st i=some x→b.st i=some x)∧(∀ i x,a.nx i=some x→b.nx i=some x)
abbrev stAV (b:Bool) (l:List Nat) (m:AV) (f:Nat):AV:=.agg [.sl b (l.map NV),m,NV f]
abbrev dfaAV (ins:List Ins) (first:List Nat) (size:Nat) (C:Nat) (c:CS):AV:=.agg [.sl false (ins.map insAV),.sl false (first.map NV),NV size,.mpr C,NV c.made,NV c.emptied]
structure DI (ins:List Ins) (first:List Nat) (size:Nat) (P:Nat→Prop) (D C:Nat) (a:Lay2) (c:CS) (H:List MB):Prop where
 d:H[D]?=some (.row 6 [dfaAV ins first size C c] 0)
 lo:(∀ i,P i→i < H.length)∧(¬ P D∧¬ P C)∧(∀ i x,a.st i=some x→¬ P i)∧(∀ i x,a.nx i=some x→¬ P i)
 cache:∃ es:List (AV×AV),H[C]?=some (.mp .str es)∧es.length=c.L.length∧∀(i:Nat) (l:List Nat),c.L[i]?=some l→l≠[]∧(∀ n∈l,n < 65536)∧∃ t,es[i]?=some (AV.str (keyS l),AV.rf t 1 0 0)∧a.st t=some (l,c.emptied)
 st:∀ t l f,a.st t=some (l,f)→∃ b m,H[t]?=some (.row 3 [stAV b l m f] 0)∧(∀ n∈l,n < ins.length)∧l.length≤ins.length∧f≤c.emptied∧(l≠[]→f=c.emptied→l∈c.L)∧(l≠[]→b=false∧∃ q,m=.mpr q∧a.nx q=some l)
 nx:∀ q l,a.nx q=some l→∃ es,H[q]?=some (.mp (.int .i64) es)∧∀ k v,(k,v)∈es→∃ x t f,k=I x∧v=.rf t 1 0 0∧a.st t=some (stateL ins (afterL ins l x),f)
 small:c.made≤4000000000000∧c.emptied≤c.made∧c.L.length≤size∧1≤size∧size≤1024
theorem findMp_mem {x v:AV} {es:List (AV×AV)} (h:findMp x es=some v):∃ k,(k,v)∈es∧AV.beq k x=true:=by
 induction es with
 | nil=>cases h
 | cons p es ih=>
   obtain⟨k,u⟩:=p
   simp only[findMp]at h
   split at h
   ·rename_i hb
    cases h
    exact⟨k,.head _,hb⟩
   ·obtain⟨k',h1,h2⟩:=ih h
    exact⟨k',.tail _ h1,h2⟩
theorem updMp_mem {x v k u:AV} {es:List (AV×AV)} (h:(k,u)∈updMp x v es):(k,u)∈es∨(u=v∧(k=x∨AV.beq k x=true)):=by
 induction es with
 | nil=>
   simp only[updMp,List.mem_singleton,Prod.mk.injEq]at h
   exact .inr ⟨h.2,.inl h.1⟩
 | cons p es ih=>
   obtain⟨k',u'⟩:=p
   simp only[updMp]at h
   split at h
   ·rename_i hb
    rcases List.mem_cons.1 h with h|h
    ·cases h;exact .inr ⟨rfl,.inr hb⟩
    ·exact .inl (.tail _ h)
   ·rcases List.mem_cons.1 h with h|h
    ·cases h;exact .inl (.head _)
    ·rcases ih h with h|h
     ·exact .inl (.tail _ h)
     ·exact .inr h
theorem beq_str {k:AV} {b:ByteArray}:AV.beq k (.str b)=true↔k=.str b:=by
 cases k<;>simp[AV.beq]
theorem beq_I {k:AV} {b:Int}:AV.beq k (I b)=true↔k=I b:=by
 cases k<;>simp[AV.beq]
theorem map8_inj:∀ {a b:List Int},(∀ x∈a,0≤x∧x < 256)→(∀ x∈b,0≤x∧x < 256)→a.map (fun n=>UInt8.ofNat n.toNat)=b.map (fun n=>UInt8.ofNat n.toNat)→a=b
 | [],[],_,_,_=>rfl
 | [],_::_,_,_,h=>by simp at h
 | _::_,[],_,_,h=>by simp at h
 | x::a,y::b,ha,hb,h=>by
   simp only[List.map_cons,List.cons.injEq]at h
   have hx:=ha x (.head _)
   have hy:=hb y (.head _)
   have h1:x=y:=by
    have:=congrArg UInt8.toNat h.1
    simp at this
    omega
   rw[h1,map8_inj (fun z hz=>ha z (.tail _ hz)) (fun z hz=>hb z (.tail _ hz)) h.2]
theorem strB_inj {a b:List Int} (ha:∀ x∈a,0≤x∧x < 256) (hb:∀ x∈b,0≤x∧x < 256) (h:strB a=strB b):a=b:=by
 simp only[strB,ByteArray.mk.injEq,Array.mk.injEq]at h
 exact map8_inj ha hb (by simpa using h)
theorem keyI_range (l:List Nat):∀ x∈keyI l,0≤x∧x < 256:=by
 intro x hx
 simp only[keyI,List.mem_flatMap,List.mem_cons,List.not_mem_nil,or_false]at hx
 obtain⟨n,_,h|h⟩:=hx<;>omega
theorem keyI_inj:∀ {a b:List Nat},(∀ n∈a,n < 65536)→(∀ n∈b,n < 65536)→keyI a=keyI b→a=b
 | [],[],_,_,_=>rfl
 | [],_::_,_,_,h=>by simp[keyI]at h
 | _::_,[],_,_,h=>by simp[keyI]at h
 | x::a,y::b,ha,hb,h=>by
   simp only[keyI,List.flatMap_cons,List.cons_append,List.nil_append,List.cons.injEq]at h
   have hx:=ha x (.head _)
   have hy:=hb y (.head _)
   have h1:x=y:=by omega
   rw[h1,keyI_inj (fun z hz=>ha z (.tail _ hz)) (fun z hz=>hb z (.tail _ hz)) h.2.2]
theorem keyS_inj {a b:List Nat} (ha:∀ n∈a,n < 65536) (hb:∀ n∈b,n < 65536) (h:keyS a=keyS b):a=b:=
 keyI_inj ha hb (strB_inj (keyI_range a) (keyI_range b) h)
def own2 (H:List MB) (D C:Nat) (x y:MB) (K:List MB):List MB:=(H.set D x).set C y++K
theorem own2_D {H:List MB} {D C:Nat} (hD:D < H.length) (hC:C < H.length) (hn:D≠C) (x y:MB) (K:List MB):(own2 H D C x y K)[D]?=some x:=by
 unfold own2
 rw[List.getElem?_append_left (by simpa using hD),List.getElem?_set_ne (Ne.symm hn),List.getElem?_set_self hD]
theorem own2_C {H:List MB} {D C:Nat} (hD:D < H.length) (hC:C < H.length) (hn:D≠C) (x y:MB) (K:List MB):(own2 H D C x y K)[C]?=some y:=by
 unfold own2
 rw[List.getElem?_append_left (by simpa using hC),List.getElem?_set_self (by simpa using hC)]
theorem own2_setD {H:List MB} {D C:Nat} (hD:D < H.length) (hC:C < H.length) (hn:D≠C) (x y v:MB) (K:List MB):(own2 H D C x y K).set D v=own2 H D C v y K:=by
 unfold own2
 rw[List.set_append_left _ _ (by simpa using hD),List.set_comm _ _ (Ne.symm hn),List.set_set]
theorem own2_setC {H:List MB} {D C:Nat} (hD:D < H.length) (hC:C < H.length) (hn:D≠C) (x y v:MB) (K:List MB):(own2 H D C x y K).set C v=own2 H D C x v K:=by
 unfold own2
 rw[List.set_append_left _ _ (by simpa using hC),List.set_set]
section
variable {H:List MB} {D C:Nat} (x y v:MB) (K:List MB)
theorem own2_app:own2 H D C x y K++[v]=own2 H D C x y (K++[v]):=by simp[own2]
theorem own2_len:(own2 H D C x y K).length=H.length+K.length:=by simp[own2]
theorem own2_ne {i:Nat} (h1:i≠D) (h2:i≠C) (hi:i < H.length):(own2 H D C x y K)[i]?=H[i]?:=by
 unfold own2
 rw[List.getElem?_append_left (by simpa using hi),List.getElem?_set_ne (Ne.symm h2),List.getElem?_set_ne (Ne.symm h1)]
theorem own2_new {k:Nat}:(own2 H D C x y K)[H.length+k]?=K[k]?:=by
 unfold own2
 rw[List.getElem?_append_right (by simp)]
 congr 1
 simp
theorem own2_self (h1:H[D]?=some x) (h2:H[C]?=some y):own2 H D C x y []=H:=by
 unfold own2
 rw[List.append_nil]
 have e1:H.set D x=H:=by
  apply List.ext_getElem?
  intro q
  by_cases e:D=q
  ·subst e;rw[List.getElem?_set_self (List.getElem?_eq_some_iff.1 h1).1,h1]
  ·rw[List.getElem?_set_ne e]
 rw[e1]
 apply List.ext_getElem?
 intro q
 by_cases e:C=q
 ·subst e;rw[List.getElem?_set_self (List.getElem?_eq_some_iff.1 h2).1,h2]
 ·rw[List.getElem?_set_ne e]
end
section
variable {ins:List Ins} {first:List Nat} {size:Nat} {P:Nat→Prop} {D C:Nat} {a:Lay2} {c:CS} {H:List MB}
theorem DI.find (h:DI ins first size P D C a c H) {l:List Nat} (hl:∀ n∈l,n < 65536) {es:List (AV×AV)} (he:H[C]?=some (.mp .str es)) :
  (l∈c.L∧∃ t,findMp (.str (keyS l)) es=some (.rf t 1 0 0)∧a.st t=some (l,c.emptied))∨(l ∉ c.L∧findMp (.str (keyS l)) es=none):=by
 obtain⟨es',e1,e2,e3⟩:=h.cache
 rw[he]at e1
 cases e1
 cases hf:findMp (.str (keyS l)) es with
 | some v=>
   obtain⟨k,m1,m2⟩:=findMp_mem hf
   rw[beq_str]at m2
   subst m2
   obtain⟨i,hi,hg⟩:=List.getElem_of_mem m1
   obtain⟨l',hl'⟩:∃ l',c.L[i]?=some l':=⟨_,List.getElem?_eq_getElem (by omega)⟩
   obtain⟨b1,b2,t,b3,b4⟩:=e3 i l' hl'
   rw[List.getElem?_eq_getElem hi,hg]at b3
   simp only[Option.some.injEq,Prod.mk.injEq,AV.str.injEq]at b3
   obtain⟨b5,rfl⟩:=b3
   have:=keyS_inj hl b2 b5
   subst this
   exact .inl ⟨List.mem_of_getElem? hl',t,rfl,b4⟩
 | none=>
   refine .inr ⟨fun hm=>?_,rfl⟩
   obtain⟨i,hi,hg⟩:=List.getElem_of_mem hm
   obtain⟨_,_,t,b3,_⟩:=e3 i l (by rw[← hg];exact List.getElem?_eq_getElem hi)
   have hne:∀ {es:List (AV×AV)} {i:Nat} {k v:AV},es[i]?=some (k,v)→AV.beq k k=true→findMp k es≠none:=by
    intro es
    induction es with
    | nil=>intro i k v h;simp at h
    | cons p es ih=>
      intro i k v h hb
      obtain⟨k',u'⟩:=p
      simp only[findMp]
      split
      ·simp
      ·cases i with
       | zero=>simp at h;rename_i hx;rw[h.1]at hx;exact absurd hb hx
       | succ i=>exact ih (by simpa using h) hb
   exact hne b3 (beq_str.2 rfl) hf
end
end
section
attribute [local go_sem] evAppend frzB
open Go.Proofs Go.RowKit Go.IntWalk
set_option maxRecDepth 100000
set_option maxHeartbeats 8000000
def KeepsLow (P:Nat→Prop) (H H':List MB):Prop:=H.length≤H'.length∧∀ i,P i→H'[i]?=H[i]?
theorem KeepsLow.refl (P:Nat→Prop) (H:List MB):KeepsLow P H H:=⟨Nat.le_refl _,fun _ _=>rfl⟩
theorem KeepsLow.trans {P:Nat→Prop} {H H' H'':List MB} (h:KeepsLow P H H') (h2:KeepsLow P H' H''):KeepsLow P H H'':=⟨Nat.le_trans h.1 h2.1,fun i hi=>(h2.2 i hi).trans (h.2 i hi)⟩
theorem Lay2.le_refl (a:Lay2):a.le a:=⟨fun _ _ h=>h,fun _ _ h=>h⟩
theorem Lay2.le_trans {a b c:Lay2} (h:a.le b) (h2:b.le c):a.le c:=⟨fun i x hx=>h2.1 i x (h.1 i x hx),fun i x hx=>h2.2 i x (h.2 i x hx)⟩
section
variable {ins:List Ins} {first:List Nat} {size:Nat} {P:Nat→Prop} {D C:Nat} {a:Lay2} {c:CS} {H:List MB}
theorem DI.st_at (h:DI ins first size P D C a c H) {t:Nat} {x:List Nat×Nat} (ht:a.st t=some x):t < H.length∧t≠D∧t≠C:=by
 obtain⟨l,f⟩:=x
 obtain⟨b,m,h1,_⟩:=h.st t l f ht
 refine⟨(List.getElem?_eq_some_iff.1 h1).1,fun e=>?_,fun e=>?_⟩
 ·rw[e,h.d]at h1;simp at h1
 ·obtain⟨es,h2,_⟩:=h.cache
  rw[e,h2]at h1;cases h1
theorem DI.nx_at (h:DI ins first size P D C a c H) {q:Nat} {x:List Nat} (hq:a.nx q=some x):q < H.length∧q≠D∧q≠C:=by
 obtain⟨es',h1,_⟩:=h.nx q x hq
 refine⟨(List.getElem?_eq_some_iff.1 h1).1,fun e=>?_,fun e=>?_⟩
 ·rw[e,h.d]at h1;cases h1
 ·obtain⟨es,h2,_⟩:=h.cache
  rw[e,h2]at h1;simp at h1
theorem DI.dead (h:DI ins first size P D C a c H) (x:MB) (hx:x=.row 3 [stAV true [] .nilm 0] 0) :
  DI ins first size P D C ⟨fun i=>if i=H.length then some ([],0) else a.st i,a.nx⟩ c (H++[x])∧a.le ⟨fun i=>if i=H.length then some ([],0) else a.st i,a.nx⟩:=by
 have old:∀ i,i < H.length→(H++[x])[i]?=H[i]?:=fun i hi=>List.getElem?_append_left hi
 have hD:=(List.getElem?_eq_some_iff.1 h.d).1
 obtain⟨es,hC,hes,hce⟩:=h.cache
 have hCl:=(List.getElem?_eq_some_iff.1 hC).1
 have hne:∀ t y,a.st t=some y→t≠H.length:=fun t y ht=>by have:=(h.st_at ht).1;omega
 have hle:a.le ⟨fun i=>if i=H.length then some ([],0) else a.st i,a.nx⟩:=⟨fun i y hy=>by simp[hne i y hy,hy],fun _ _ h=>h⟩
 refine⟨⟨by rw[old _ hD];exact h.d,⟨fun i hi=>by rw[List.length_append];have:=h.lo.1 i hi;omega,h.lo.2.1,fun i y hy=>?_,h.lo.2.2.2⟩,⟨es,by rw[old _ hCl];exact hC,hes,fun i l hi=>?_⟩,fun t l f ht=>?_,fun q l hq=>?_,h.small⟩,hle⟩
 ·simp only at hy
  split at hy
  ·rename_i e;exact fun hp=>by have:=h.lo.1 i hp;omega
  ·exact h.lo.2.2.1 i y hy
 ·obtain⟨b1,b2,t,b3,b4⟩:=hce i l hi
  exact⟨b1,b2,t,b3,hle.1 _ _ b4⟩
 ·simp only at ht
  split at ht
  ·rename_i e
   cases ht
   subst e
   exact⟨true,.nilm,by simp[hx],(fun n hn=>by cases hn),Nat.zero_le _,Nat.zero_le _,fun h=>absurd rfl h,fun h=>absurd rfl h⟩
  ·obtain⟨b,m,c1,c2,c3,c4,c5,c6⟩:=h.st t l f ht
   exact⟨b,m,by rw[old _ (h.st_at ht).1];exact c1,c2,c3,c4,c5,c6⟩
 ·obtain⟨es',d1,d2⟩:=h.nx q l hq
  refine⟨es',by rw[old _ (h.nx_at hq).1];exact d1,fun k v hm=>?_⟩
  obtain⟨y,t,f,e1,e2,e3⟩:=d2 k v hm
  exact⟨y,t,f,e1,e2,hle.1 _ _ e3⟩
abbrev layN (a:Lay2) (n:Nat) (l:List Nat) (f:Nat):Lay2:=⟨fun i=>if i=n+1 then some (l,f) else a.st i,fun i=>if i=n then some l else a.nx i⟩
theorem DI.made (h:DI ins first size P D C a c H) {l:List Nat} (hl:∀ n∈l,n < ins.length) (hll:l.length≤ins.length) (h0:l≠[]) (hN:ins.length≤8192) (c':CS) (es':List (AV×AV)) (hes:es'.length=c'.L.length)
  (hc:∀(i:Nat) (l':List Nat),c'.L[i]?=some l'→(l' = l∧es'[i]?=some (AV.str (keyS l),AV.rf (H.length+1) 1 0 0))∨(c'.emptied=c.emptied∧∃ es:List (AV×AV),H[C]?=some (.mp .str es)∧c.L[i]?=some l'∧es'[i]?=es[i]?))
  (he:c.emptied≤c'.emptied) (hin:l∈c'.L) (hold:c'.emptied=c.emptied→∀ x∈c.L,x∈c'.L) (hold2:c'.emptied=c.emptied∨c.emptied < c'.emptied)
  (hs:c'.made≤4000000000000∧c'.emptied≤c'.made∧c'.L.length≤size∧1≤size∧size≤1024) :
  DI ins first size P D C (layN a H.length l c'.emptied) c' (own2 H D C (.row 6 [dfaAV ins first size C c'] 0) (.mp .str es') [.mp (.int .i64) [],.row 3 [stAV false l (.mpr H.length) c'.emptied] 0])∧a.le (layN a H.length l c'.emptied):=by
 have hDl:=(List.getElem?_eq_some_iff.1 h.d).1
 obtain⟨es,hC,hes0,hce⟩:=h.cache
 have hCl:=(List.getElem?_eq_some_iff.1 hC).1
 have hDC:D≠C:=fun e=>by rw[← e,h.d]at hC;cases hC
 have hne:∀ t y,a.st t=some y→t≠H.length+1:=fun t y ht=>by have:=(h.st_at ht).1;omega
 have hne2:∀ t y,a.nx t=some y→t≠H.length:=fun t y ht=>by have:=(h.nx_at ht).1;omega
 have hle:a.le (layN a H.length l c'.emptied):=⟨fun i y hy=>by simp[layN,hne i y hy,hy],fun i y hy=>by simp[layN,hne2 i y hy,hy]⟩
 have hlo:=h.lo
 refine⟨⟨own2_D hDl hCl hDC _ _ _,⟨fun i hi=>by rw[own2_len];have:=hlo.1 i hi;omega,hlo.2.1,fun i y hy=>?_,fun i y hy=>?_⟩,⟨es',own2_C hDl hCl hDC _ _ _,hes,fun i l' hi=>?_⟩,fun t l' f ht=>?_,fun q l' hq=>?_,hs⟩,hle⟩
 ·simp only[layN]at hy
  split at hy
  ·exact fun hp=>by have:=hlo.1 i hp;omega
  ·exact hlo.2.2.1 i y hy
 ·simp only[layN]at hy
  split at hy
  ·exact fun hp=>by have:=hlo.1 i hp;omega
  ·exact hlo.2.2.2 i y hy
 ·rcases hc i l' hi with ⟨rfl,e2⟩|⟨e1,es0,e2,e3,e4⟩
  ·exact⟨h0,fun n hn=>by have:=hl n hn;omega,_,e2,by simp[layN]⟩
  ·rw[hC]at e2;cases e2
   obtain⟨b1,b2,t,b3,b4⟩:=hce i l' e3
   exact⟨b1,b2,t,by rw[e4];exact b3,(hle.1 _ _ b4).trans (by rw[e1])⟩
 ·simp only[layN]at ht
  split at ht
  ·rename_i e
   simp only[Option.some.injEq,Prod.mk.injEq]at ht
   obtain⟨rfl,rfl⟩:=ht
   subst e
   exact⟨false,.mpr H.length,by rw[own2_new];rfl,hl,hll,Nat.le_refl _,fun _ _=>hin,fun _=>⟨rfl,_,rfl,by simp[layN]⟩⟩
  ·obtain⟨b,m,c1,c2,c3,c4,c5,c6⟩:=h.st t l' f ht
   obtain⟨g1,g2,g3⟩:=h.st_at ht
   refine⟨b,m,by rw[own2_ne _ _ _ g2 g3 g1];exact c1,c2,c3,by omega,fun z1 z2=>?_,fun z1=>?_⟩
   ·rcases hold2 with e|e
    ·exact hold e l' (c5 z1 (by omega))
    ·omega
   ·obtain⟨z,q,k1,k2⟩:=c6 z1
    exact⟨z,q,k1,hle.2 _ _ k2⟩
 ·simp only[layN]at hq
  split at hq
  ·rename_i e
   subst e
   exact⟨[],by have:=own2_new (H:=H) (D:=D) (C:=C) (.row 6 [dfaAV ins first size C c'] 0) (.mp .str es') [.mp (.int .i64) [],.row 3 [stAV false l (.mpr H.length) c'.emptied] 0] (k:=0);simpa using this,fun k v hm=>by cases hm⟩
  ·obtain⟨es2,d1,d2⟩:=h.nx q l' hq
   obtain⟨g1,g2,g3⟩:=h.nx_at hq
   refine⟨es2,by rw[own2_ne _ _ _ g2 g3 g1];exact d1,fun k v hm=>?_⟩
   obtain⟨y,t,f,e1,e2,e3⟩:=d2 k v hm
   exact⟨y,t,f,e1,e2,hle.1 _ _ e3⟩
theorem own2_low (h:DI ins first size P D C a c H) (x y:MB) (K:List MB):KeepsLow P H (own2 H D C x y K):=by
 have hlo:=h.lo
 have hDl:=(List.getElem?_eq_some_iff.1 h.d).1
 refine⟨by rw[own2_len];omega,fun i hi=>own2_ne _ _ _ (fun e=>hlo.2.1.1 (e ▸ hi)) (fun e=>hlo.2.1.2 (e ▸ hi)) (hlo.1 i hi)⟩
end
theorem updMp_none {x v:AV}:∀ {es:List (AV×AV)},findMp x es=none→updMp x v es=es++[(x,v)]
 | [],_=>rfl
 | (k,u)::es,h=>by
   simp only[findMp]at h
   split at h
   ·cases h
   ·rename_i hb
    simp only[updMp]
    rw[if_neg hb,updMp_none h]
    rfl
theorem kf47 {ins:List Ins} {first:List Nat} {size:Nat} {P:Nat→Prop} {D C:Nat} {a:Lay2} {c:CS} {H:List MB} (hi:DI ins first size P D C a c H) (hN:ins.length≤8192) (hmd:c.made < 4000000000000) {l:List Nat} (hl:∀ n∈l,n < ins.length) (hll:l.length≤ins.length) :
  ∃ r,(∃ t H' a' f,r=(AV.rf t 1 0 0,H')∧DI ins first size P D C a' (c.need size l) H'∧a.le a'∧a'.st t=some (l,f)∧KeepsLow P H H')∧call Tryz.prog pol1 78 [.rf D 1 0 0,.sl false (l.map NV)] H=some r:=by
 have hD:=hi.d
 have hDl:=(List.getElem?_eq_some_iff.1 hD).1
 obtain⟨es,hC,hes,hce⟩:=hi.cache
 have hCl:=(List.getElem?_eq_some_iff.1 hC).1
 have hDC:D≠C:=fun e=>by rw[← e,hD]at hC;cases hC
 obtain⟨s1,s2,s3,s4,s5⟩:=hi.small
 have hk:=kf51 l (by omega)
 have oD:=fun x y K=>own2_D (D:=D) (C:=C) hDl hCl hDC x y K
 have oC:=fun x y K=>own2_C (D:=D) (C:=C) hDl hCl hDC x y K
 have oSD:=fun x y v K=>own2_setD (D:=D) (C:=C) hDl hCl hDC x y v K
 have oSC:=fun x y v K=>own2_setC (D:=D) (C:=C) hDl hCl hDC x y v K
 have hself:=own2_self _ _ hD hC
 refine call_run2E (pol:=pol1) Tryz.func78 rfl rfl rfl rfl (frzArgs_mix _ _ _ rfl) ?_
 rw[← hself]
 have rp:∀ H1 r H,retPol pol1 78 H1 r H=some (r,H):=fun H1 r H=>rfl
 by_cases h0:l=[]
 ·subst h0
  simp +contextual (disch:=omega) only[Tryz.f78,dd78,go_sem,simprocAttr,mu78,↓wrap_up,↓wrap_down,↓wrap_pred,↓wrap_sub_nat,oD,oC,oSD,oSC,own2_app,own2_len]
  refine⟨_,⟨_,_,⟨fun i=>if i=H.length then some ([],0) else a.st i,a.nx⟩,0,rfl,?_⟩,rp _ _ _⟩
  rw[show own2 H D C (.row 6 [dfaAV ins first size C c] 0) (.mp .str es) [.row 3 [.agg [.sl true [],.nilm,.int .i64 0]] 0]=H++[.row 3 [stAV true [] .nilm 0] 0] from(own2_app _ _ _ []).symm.trans (by rw[hself];rfl),hself]
  obtain⟨g1,g2⟩:=hi.dead _ rfl
  exact⟨g1,g2,by simp,⟨by simp,fun i hi2=>List.getElem?_append_left (hi.lo.1 i hi2)⟩⟩
 have hl0:((l.length:Nat):Int)=0↔False:=by
  have:l.length≠0:=fun e=>h0 (List.length_eq_zero_iff.1 e)
  exact⟨fun h=>this (by omega),False.elim⟩
 rcases hi.find (l:=l) (fun n hn=>by have:=hl n hn;omega) hC with ⟨hm,t,ht,hst⟩|⟨hm,ht⟩
 ·simp +contextual (disch:=omega) only[Tryz.f78,dd78,go_sem,simprocAttr,mu78,↓wrap_up,↓wrap_down,↓wrap_pred,↓wrap_sub_nat,oD,oC,oSD,oSC,own2_app,own2_len,hl0,hk,ht]
  refine⟨False.elim,fun _=>⟨_,⟨_,_,a,c.emptied,rfl,?_⟩,rp _ _ _⟩⟩
  rw[hself]
  refine⟨?_,a.le_refl,hst,.refl _ _⟩
  unfold CS.need
  rw[if_neg h0,if_pos hm]
  exact hi
 ·by_cases hfull:c.L.length=size
  ·simp +contextual (disch:=omega) only[Tryz.f78,dd78,go_sem,simprocAttr,mu78,↓wrap_up,↓wrap_down,↓wrap_pred,↓wrap_sub_nat,oD,oC,oSD,oSC,own2_app,own2_len,hl0,hk,ht,lenMp,evClear,hes,hfull]
   refine⟨False.elim,fun _=>⟨by unfold dOk;kernel_rfl,_,⟨_,_,layN a H.length l (c.emptied+1),c.emptied+1,rfl,?_⟩,rp _ _ _⟩⟩
   rw[hself]
   have hn:c.need size l=⟨[l],c.made+1,c.emptied+1⟩:=by unfold CS.need;rw[if_neg h0,if_neg hm,if_pos hfull]
   rw[hn]
   obtain⟨g1,g2⟩:=hi.made hl hll h0 hN ⟨[l],c.made+1,c.emptied+1⟩ [(.str (keyS l),.rf (H.length+1) 1 0 0)] rfl (fun i l' h=>by
    cases i with
    | zero=>simp at h;exact .inl ⟨h.symm,rfl⟩
    | succ i=>simp at h) (Nat.le_succ _) (by simp) (fun h=>by simp at h) (.inr (Nat.lt_succ_self _)) ⟨by simp only;omega,by simp only;omega,by simp only[List.length_singleton];omega,s4,s5⟩
   exact⟨g1,g2,by simp[layN],own2_low hi _ _ _⟩
  ·simp +contextual (disch:=omega) only[Tryz.f78,dd78,go_sem,simprocAttr,mu78,↓wrap_up,↓wrap_down,↓wrap_pred,↓wrap_sub_nat,oD,oC,oSD,oSC,own2_app,own2_len,hl0,hk,ht,lenMp,evClear,hes,hfull]
   refine⟨False.elim,fun _=>⟨by unfold dOk;kernel_rfl,_,⟨_,_,layN a H.length l c.emptied,c.emptied,rfl,?_⟩,rp _ _ _⟩⟩
   rw[hself,updMp_none ht]
   have hn:c.need size l=⟨c.L++[l],c.made+1,c.emptied⟩:=by unfold CS.need;rw[if_neg h0,if_neg hm,if_neg hfull]
   rw[hn]
   obtain⟨g1,g2⟩:=hi.made hl hll h0 hN ⟨c.L++[l],c.made+1,c.emptied⟩ (es++[(.str (keyS l),.rf (H.length+1) 1 0 0)]) (by simp[hes]) (fun i l' h=>by
    by_cases hlt:i < c.L.length
    ·rw[List.getElem?_append_left hlt]at h
     exact .inr ⟨rfl,es,hC,h,List.getElem?_append_left (by omega)⟩
    ·have hi3:i=c.L.length:=by
      have:=(List.getElem?_eq_some_iff.1 h).1
      simp at this;omega
     subst hi3
     simp at h
     exact .inl ⟨h.symm,by rw[← hes];simp⟩) (Nat.le_refl _) (by simp) (fun _ x hx=>List.mem_append_left _ hx) (.inl rfl) ⟨by simp only;omega,by simp only;omega,by simp only[List.length_append,List.length_singleton];omega,s4,s5⟩
   exact⟨g1,g2,by simp[layN],own2_low hi _ _ _⟩
end
section
attribute [local go_sem] evAppend frzB
open Go.Proofs Go.RowKit Go.IntWalk
set_option maxRecDepth 100000
set_option maxHeartbeats 8000000
section
variable {ins:List Ins} {first:List Nat} {size:Nat} {P:Nat→Prop} {D C:Nat} {a:Lay2} {c:CS} {H:List MB}
theorem DI.setNx (h:DI ins first size P D C a c H) {q:Nat} {l:List Nat} (hq:a.nx q=some l) (es:List (AV×AV)) (hes:∀ k v,(k,v)∈es→∃ x t f,k=I x∧v=.rf t 1 0 0∧a.st t=some (stateL ins (afterL ins l x),f)) :
  DI ins first size P D C a c (H.set q (.mp (.int .i64) es))∧KeepsLow P H (H.set q (.mp (.int .i64) es)):=by
 obtain⟨g1,g2,g3⟩:=h.nx_at hq
 have hlo:=h.lo.2.2.2 q l hq
 have old:∀ i,i≠q→(H.set q (.mp (.int .i64) es))[i]?=H[i]?:=fun i hi=>List.getElem?_set_ne (Ne.symm hi)
 obtain⟨es0,hC,hes0,hce⟩:=h.cache
 obtain⟨es1,hq1,hq2⟩:=h.nx q l hq
 refine⟨⟨by rw[old _ (Ne.symm g2)];exact h.d,⟨fun i hi=>by rw[List.length_set];exact h.lo.1 i hi,h.lo.2⟩,⟨es0,by rw[old _ (Ne.symm g3)];exact hC,hes0,hce⟩,fun t l' f ht=>?_,fun q' l' hq'=>?_,h.small⟩,⟨by simp,fun i hi=>old i (fun e=>hlo (e ▸ hi))⟩⟩
 ·obtain⟨b,m,c1,c2⟩:=h.st t l' f ht
  have:t≠q:=fun e=>by rw[e,hq1]at c1;cases c1
  exact⟨b,m,by rw[old _ this];exact c1,c2⟩
 ·by_cases e:q' = q
  ·subst e
   rw[hq]at hq';cases hq'
   exact⟨es,List.getElem?_set_self g1,hes⟩
  ·obtain⟨es2,d1,d2⟩:=h.nx q' l' hq'
   exact⟨es2,by rw[old _ e];exact d1,d2⟩
theorem CS.need_made (c:CS) (size:Nat) (l:List Nat):(c.need size l).made≤c.made+1:=by
 unfold CS.need
 split
 ·omega
 ·split
  ·omega
  ·split<;>simp
end
structure InsOk (ins:List Ins):Prop where
 len:ins.length≤8192
 leads:Leads ins
 sets:∀ i∈ins,i.set.length≤1000000
theorem afterL_lt {ins:List Ins} (h:Leads ins) (l:List Nat) (x:Int):∀ n∈afterL ins l x,n < ins.length:=by
 intro n hn
 simp only[afterL,List.mem_flatMap]at hn
 obtain⟨m,_,hm⟩:=hn
 split at hm
 ·rename_i i hi
  split at hm
  ·rename_i h1
   simp at hm;subst hm
   exact(h m i hi).2.2.2 (.inl h1.1)
  ·simp at hm
 ·simp at hm
abbrev nextL (ins:List Ins) (l:List Nat) (x:Int):List Nat:=stateL ins (afterL ins l x)
theorem kf48 {ins:List Ins} {first:List Nat} {size:Nat} {P:Nat→Prop} {D C:Nat} {a:Lay2} {c:CS} {H:List MB} (hi:DI ins first size P D C a c H) (ho:InsOk ins) (hmd:c.made < 4000000000000) {s:Nat} {l:List Nat} {f:Nat} (hs:a.st s=some (l,f)) (hl0:l≠[]) (x:Int) :
  ∃ r,(∃ t H' a' f,r=(AV.rf t 1 0 0,H')∧DI ins first size P D C a' (c.need size (nextL ins l x)) H'∧a.le a'∧a'.st t=some (nextL ins l x,f)∧KeepsLow P H H')∧call Tryz.prog pol1 79 [.rf D 1 0 0,.rf s 1 0 0,I x] H=some r:=by
 have hN:=ho.len
 have hD:=hi.d
 obtain⟨b,m,s1,s2,s3,s4,s5,s6⟩:=hi.st s l f hs
 obtain⟨rfl,q,rfl,hq⟩:=s6 hl0
 obtain⟨es,q1,q2⟩:=hi.nx q l hq
 obtain⟨t1,⟨t,H1,a1,f1,rfl,d1,le1,st1,low1⟩,hc47⟩:=kf47 hi hN hmd (l:=nextL ins l x) (stateL_ok ins _).1 (stateL_ok ins _).2
 obtain⟨b',m',u1,u2,u3,u4,u5,u6⟩:=d1.st s l f (le1.1 _ _ hs)
 obtain⟨rfl,q',rfl,hq'⟩:=u6 hl0
 obtain⟨es',v1,v2⟩:=d1.nx q' l hq'
 have hal:=afterL_len ins l x
 have hc52:=kf52 ins (by omega) ho.sets l (by omega) s2 x
 have hc30:=kf30l ins (by omega) ho.leads (afterL ins l x) (by omega) (afterL_lt ho.leads l x)
 have rp:∀ H1 r H,retPol pol1 79 H1 r H=some (r,H):=fun H1 r H=>rfl
 have hsq:s≠q':=fun e=>by rw[e,v1]at u1;cases u1
 have hq'l:=(d1.nx_at hq').1
 have g1:∀ z,(H1.set q' z)[s]?=some (.row 3 [stAV false l (.mpr q') f] 0):=fun z=>by rw[List.getElem?_set_ne (Ne.symm hsq)];exact u1
 have g2:∀ z,(H1.set q' z)[q']?=some z:=fun z=>List.getElem?_set_self hq'l
 have hgood:∀(es2:List (AV×AV)),(∀ k v,(k,v)∈es2→(k,v)∈es')→∀ k v,(k,v)∈updMp (I x) (.rf t 1 0 0) es2→∃ x t f,k=I x∧v=.rf t 1 0 0∧a1.st t=some (stateL ins (afterL ins l x),f):=by
  intro es2 he k v hm
  rcases updMp_mem hm with h|⟨h1,h2⟩
  ·exact v2 k v (he k v h)
  ·refine⟨x,t,f1,?_,h1,st1⟩
   rcases h2 with h2|h2
   ·exact h2
   ·exact beq_I.1 h2
 refine call_run2E (pol:=pol1) Tryz.func79 rfl rfl rfl rfl (frzArgs_mix _ _ _ rfl) ?_
 have fin:∀(es2:List (AV×AV)),(∀ k v,(k,v)∈es2→(k,v)∈es')→∃ r,(∃ t H' a' f,r=(AV.rf t 1 0 0,H')∧DI ins first size P D C a' (c.need size (nextL ins l x)) H'∧a.le a'∧a'.st t=some (nextL ins l x,f)∧KeepsLow P H H') ∧
   retPol pol1 79 H (.rf t 1 0 0) (H1.set q' (.mp (.int .i64) (updMp (I x) (.rf t 1 0 0) es2)))=some r:=by
  intro es2 he
  obtain⟨w1,w2⟩:=d1.setNx hq' _ (hgood es2 he)
  exact⟨_,⟨t,_,a1,f1,rfl,w1,le1,st1,low1.trans w2⟩,rp _ _ _⟩
 cases hf:findMp (I x) es with
 | some v=>
   obtain⟨k,hm,hb⟩:=findMp_mem hf
   rw[beq_I]at hb
   subst hb
   obtain⟨x',t2,f2,e1,rfl,e3⟩:=q2 _ _ hm
   have e1:x=x':=by simpa using e1
   subst e1
   obtain⟨b2,m2,k1,k2,k3,k4,k5,k6⟩:=hi.st t2 _ _ e3
   by_cases hhit:nextL ins l x=[]∨f2=c.emptied
   ·have hneed:c.need size (nextL ins l x)=c:=by
     unfold CS.need
     by_cases h0:nextL ins l x=[]
     ·rw[if_pos h0]
     ·rw[if_neg h0]
      rcases hhit with h|h
      ·exact absurd h h0
      ·rw[if_pos (k5 h0 h)]
    have hres:∃ r,(∃ t H' a' f,r=(AV.rf t 1 0 0,H')∧DI ins first size P D C a' (c.need size (nextL ins l x)) H'∧a.le a'∧a'.st t=some (nextL ins l x,f)∧KeepsLow P H H')∧retPol pol1 79 H (.rf t2 1 0 0) H=some r:=
     ⟨_,⟨t2,H,a,f2,rfl,by rw[hneed];exact hi,a.le_refl,e3,.refl _ _⟩,rp _ _ _⟩
    by_cases h0:(nextL ins l x).length=0
    ·simp +contextual (disch:=omega) only[Tryz.f79,dd79,go_sem,simprocAttr,mu79,↓wrap_up,↓wrap_down,↓wrap_pred,↓wrap_sub_nat,hD,s1,q1,hf,k1,h0]
     repeat' (first|intro _|apply And.intro|(unfold dOk;kernel_rfl)|exact St.beq_refl _|(show altO _ _ _ _=true;kernel_rfl)|(show (_ || _)=true;kernel_rfl)|(show (_ && _)=true;kernel_rfl))
     all_goals first|exact hres|omega
    ·have h1:f2=c.emptied:=by
      rcases hhit with h|h
      ·exact absurd (List.length_eq_zero_iff.2 h) h0
      ·exact h
     subst h1
     simp +contextual (disch:=omega) only[Tryz.f79,dd79,go_sem,simprocAttr,mu79,↓wrap_up,↓wrap_down,↓wrap_pred,↓wrap_sub_nat,hD,s1,q1,hf,k1]
     repeat' (first|intro _|apply And.intro|(unfold dOk;kernel_rfl)|exact St.beq_refl _|(show altO _ _ _ _=true;kernel_rfl)|(show (_ || _)=true;kernel_rfl)|(show (_ && _)=true;kernel_rfl))
     all_goals exact hres
   ·have h0:(stateL ins (afterL ins l x)).length≠0:=fun e=>hhit (.inl (List.length_eq_zero_iff.1 e))
    have h0':((stateL ins (afterL ins l x)).length:Int)=0↔False:=⟨fun h=>h0 (by omega),False.elim⟩
    have h1:((f2:Nat):Int)=(c.emptied:Nat)↔False:=⟨fun h=>hhit (.inr (by omega)),False.elim⟩
    simp +contextual (disch:=omega) only[Tryz.f79,dd79,go_sem,simprocAttr,mu79,↓wrap_up,↓wrap_down,↓wrap_pred,↓wrap_sub_nat,hD,s1,q1,hf,k1,h0',h1,hc52,hc30,hc47,u1,v1,g1,g2,lenMp,evClear,List.set_set]
    repeat' (first|intro _|apply And.intro|(unfold dOk;kernel_rfl)|exact St.beq_refl _|(show altO _ _ _ _=true;kernel_rfl)|(show (_ || _)=true;kernel_rfl)|(show (_ && _)=true;kernel_rfl))
    all_goals first|contradiction|exact fin [] (fun k v h=>by cases h)|exact fin es' (fun k v h=>h)|trace_state
 | none=>
   simp +contextual (disch:=omega) only[Tryz.f79,dd79,go_sem,simprocAttr,mu79,↓wrap_up,↓wrap_down,↓wrap_pred,↓wrap_sub_nat,hD,s1,q1,hf,hc52,hc30,hc47,u1,v1,g1,g2,lenMp,evClear,List.set_set]
   repeat' (first|intro _|apply And.intro|(unfold dOk;kernel_rfl)|exact St.beq_refl _|(show altO _ _ _ _=true;kernel_rfl)|(show (_ || _)=true;kernel_rfl)|(show (_ && _)=true;kernel_rfl))
   ·exact fin [] (fun k v h=>by cases h)
   ·exact fin es' (fun k v h=>h)
def doneL (ins:List Ins) (l:List Nat):Bool:=match l.getLast? with
 | some n=>match ins[n]? with
   | some i=>i.op == 0
   | none=>false
 | none=>false
def runL (ins:List Ins):List Int→Nat→List Nat→Int→Int
 | xs,p,l,e=>if l=[] then e else match xs with
   | []=>if doneL ins l=true then(p:Int) else e
   | x::xs=>runL ins xs (p+1) (nextL ins l x) (if doneL ins l=true then(p:Int) else e)
def runC (ins:List Ins) (size:Nat):List Int→List Nat→CS→CS
 | xs,l,c=>if l=[] then c else match xs with
   | []=>c
   | x::xs=>runC ins size xs (nextL ins l x) (c.need size (nextL ins l x))
end
section
attribute [local go_sem] evAppend frzB
open Go.Proofs Go.RowKit Go.IntWalk
set_option maxRecDepth 100000
set_option maxHeartbeats 8000000
theorem runL_nil {ins:List Ins} {xs:List Int} {p:Nat} {e:Int}:runL ins xs p [] e=e:=by
 cases xs<;>simp[runL]
theorem runC_nil {ins:List Ins} {size:Nat} {xs:List Int} {c:CS}:runC ins size xs [] c=c:=by
 cases xs<;>simp[runC]
theorem doneL_at {ins:List Ins} {l:List Nat} {n:Nat} {i:Ins} (h:l[l.length - 1]?=some n) (hi:ins[n]?=some i):doneL ins l=(i.op == 0):=by
 simp[doneL,List.getLast?_eq_getElem?,h,hi]
structure KRS where
 p:Nat
 t:Nat
 l:List Nat
 f:Nat
 e:Int
 H:List MB
 a:Lay2
 c:CS
theorem kf31 {ins:List Ins} {first:List Nat} {size:Nat} {P:Nat→Prop} {D C:Nat} {a:Lay2} {c:CS} {H:List MB} (hi:DI ins first size P D C a c H) (ho:InsOk ins) (hf1:∀ n∈first,n < ins.length) (hf2:first.length≤ins.length) (xs:List Int) (hx:xs.length≤1000000) (p:Nat) (hp:p≤xs.length) (hmd:c.made+xs.length+2≤4000000000000) :
  ∃ r,(∃ H' a',r=(I (runL ins (xs.drop p) p first (-1)),H')∧DI ins first size P D C a' (runC ins size (xs.drop p) first (c.need size first)) H'∧a.le a'∧KeepsLow P H H')∧call Tryz.prog pol1 46 [.rf D 1 0 0,.sl false (xs.map I),I p] H=some r:=by
 have hN:=ho.len
 have rp:∀ H1 r H,retPol pol1 46 H1 r H=some (r,H):=fun H1 r H=>rfl
 have hD:=hi.d
 obtain⟨t1,⟨t,H1,a1,f1,rfl,d1,le1,st1,low1⟩,hc47⟩:=kf47 hi hN (by omega) hf1 hf2
 have hm1:=CS.need_made c size first
 refine call_run2E (pol:=pol1) Tryz.func46 rfl rfl rfl rfl (frzArgs_mix _ _ _ rfl) ?_
 simp +contextual (disch:=omega) only[Tryz.f46,dd46,go_sem,simprocAttr,mu46,↓wrap_up,↓wrap_down,↓wrap_pred,↓wrap_sub_nat,hD,hc47]
 refine W_for (σ:=KRS) (M:=(mskOf (pol1.mask 46) (pol1.gc 46) (pol1.acts 46) 0 3)) rfl (fun x=>(⟨58,[(8,.rf x.t 1 0 0),(7,I x.e),(2,I x.p),(1,.sl false (xs.map I)),(0,.rf D 1 0 0)],x.H⟩:St))
  (fun x=>x.p≤xs.length∧DI ins first size P D C x.a x.c x.H∧x.a.st x.t=some (x.l,x.f)∧a.le x.a∧KeepsLow P H x.H∧x.c.made+(xs.length - x.p)≤c.made+xs.length+1 ∧
    runL ins (xs.drop x.p) x.p x.l x.e=runL ins (xs.drop p) p first (-1)∧runC ins size (xs.drop x.p) x.l x.c=runC ins size (xs.drop p) first (c.need size first))
  (fun x=>xs.length - x.p) ⟨p,t,first,f1,-1,H1,a1,c.need size first⟩ ?_ ⟨hp,d1,st1,le1,low1,by simp only;omega,rfl,rfl⟩ _ ?_
 ·rintro⟨p',t',l,f,e,H',a',c'⟩ ⟨h1,h2,h3,h4,h5,h6,h7,h8⟩
  simp only at h1 h2 h3 h4 h5 h6 h7 h8 ⊢
  obtain⟨b,m,s1,s2,s3,s4,s5,s6⟩:=h2.st t' l f h3
  have hD':=h2.d
  by_cases hl0:l=[]
  ·subst hl0
   rw[runL_nil]at h7
   rw[runC_nil]at h8
   simp +contextual (disch:=omega) only[Tryz.f46,dd46,go_sem,simprocAttr,mu46,↓wrap_up,↓wrap_down,↓wrap_pred,↓wrap_sub_nat,s1]
   exact⟨_,⟨H',a',by rw[h7],by rw[← h8];exact h2,h4,h5⟩,rp _ _ _⟩
  obtain⟨rfl,q,rfl,hq⟩:=s6 hl0
  have hlen:0 < l.length:=List.length_pos_iff.2 hl0
  obtain⟨n,hn⟩:∃ n,l[l.length - 1]?=some n:=⟨_,List.getElem?_eq_getElem (by omega)⟩
  have hn':(l.map NV)[l.length - 1]?=some (NV n):=by simp[hn]
  obtain⟨i,hi'⟩:∃ i,ins[n]?=some i:=⟨_,List.getElem?_eq_getElem (s2 n (List.mem_of_getElem? hn))⟩
  have hii:(ins.map insAV)[n]?=some (insAV i):=by simp[hi']
  have hdone:=doneL_at hn hi'
  by_cases hend:p' = xs.length
  ·subst hend
   rw[List.drop_length]at h7 h8
   simp only[runL,runC,if_neg hl0,hdone]at h7 h8
   simp +contextual (disch:=omega) only[Tryz.f46,dd46,go_sem,simprocAttr,mu46,↓wrap_up,↓wrap_down,↓wrap_pred,↓wrap_sub_nat,s1,hD',hn',hii]
   refine⟨by unfold dOk;kernel_rfl,fun h=>?_,fun h=>?_⟩
   ·rw[if_pos (by simp[h])]at h7
    exact⟨_,⟨H',a',by rw[h7],by rw[← h8];exact h2,h4,h5⟩,rp _ _ _⟩
   ·rw[if_neg (by simp[h])]at h7
    exact⟨_,⟨H',a',by rw[h7],by rw[← h8];exact h2,h4,h5⟩,rp _ _ _⟩
  ·obtain⟨x,hx'⟩:∃ x,xs[p']?=some x:=⟨_,List.getElem?_eq_getElem (by omega)⟩
   have hx2:(xs.map I)[p']?=some (I x):=by simp[hx']
   have hdrop:xs.drop p' = x::xs.drop (p' + 1):=by
    rw[List.drop_eq_getElem_cons (by omega)]
    congr 1
    rw[List.getElem?_eq_getElem (by omega)]at hx'
    exact Option.some.inj hx'
   obtain⟨r2,⟨t2,H2,a2,f2,rfl,d2,le2,st2,low2⟩,hc48⟩:=kf48 h2 ho (by omega) h3 hl0 x
   have hm2:=CS.need_made c' size (nextL ins l x)
   rw[hdrop]at h7 h8
   simp only[runL,runC,if_neg hl0,hdone]at h7 h8
   simp +contextual (disch:=omega) only[Tryz.f46,dd46,go_sem,simprocAttr,mu46,↓wrap_up,↓wrap_down,↓wrap_pred,↓wrap_sub_nat,s1,hD',hn',hii,hx2,hc48]
   refine⟨by unfold dOk;kernel_rfl,fun h=>?_,fun h=>?_⟩
   ·rw[if_pos (by simp[h])]at h7
    exact⟨⟨p' + 1,t2,nextL ins l x,f2,p',H2,a2,c'.need size (nextL ins l x)⟩,⟨by simp only;omega,d2,st2,Lay2.le_trans h4 le2,h5.trans low2,by simp only;omega,h7,h8⟩,by simp only;omega,rfl⟩
   ·rw[if_neg (by simp[h])]at h7
    exact⟨⟨p' + 1,t2,nextL ins l x,f2,e,H2,a2,c'.need size (nextL ins l x)⟩,⟨by simp only;omega,d2,st2,Lay2.le_trans h4 le2,h5.trans low2,by simp only;omega,h7,h8⟩,by simp only;omega,rfl⟩
 ·rfl
theorem kf12s {ins:List Ins} {first:List Nat} {size:Nat} {P:Nat→Prop} {D C:Nat} {a:Lay2} {c:CS} {H:List MB} (hi:DI ins first size P D C a c H):call Tryz.prog pol1 23 [.rf D 1 0 0] H=some (.tup [NV c.made,NV c.emptied],H):=by
 have hD:=hi.d
 have rp:∀ H1 r H,retPol pol1 23 H1 r H=some (r,H):=fun H1 r H=>rfl
 refine call_run2 (pol:=pol1) Tryz.func23 rfl rfl rfl rfl (frzArgs_mix _ _ _ rfl) ?_
 simp +contextual (disch:=omega) only[Tryz.f23,dd23,go_sem,simprocAttr,mu23,↓wrap_up,↓wrap_down,↓wrap_pred,↓wrap_sub_nat,hD]
 exact⟨by unfold dOk;kernel_rfl,rp _ _ _⟩
end
section
attribute [local go_sem] evAppend
open Go.Proofs Go.RowKit Go.IntWalk
set_option maxRecDepth 100000
set_option maxHeartbeats 8000000
theorem kf29n (l:List (Int×Int)) (hl:l.length≤1000000) (K:List MB) (x:MB):call Tryz.prog pol1 45 [.sl false (l.map spanAV)] (K++[x])=some (.sl false (l.map spanAV),K++[x]):=by
 rw[call_eq]
 unfold evStep
 rw[if_neg (show ¬ pol1.pure 45=true by decide)]
 show cloneExt 2 16 [.sl false (l.map spanAV)] (K++[x])=_
 have h1:((l.map spanAV).all fun y=>decide (y.cells.length=2) && y.cells.all AV.ok)=true:=by
  rw[List.all_eq_true]
  intro y hy
  obtain⟨p,_,rfl⟩:=List.mem_map.1 hy
  rfl
 have h2:roomFor (l.map spanAV).length 16=true:=room_ok (by simp;omega) (by omega)
 unfold cloneExt
 simp only[elemsOf]
 rw[if_pos ⟨h1,h2,plain_span l⟩]
 cases K<;>rfl
theorem kf28n (l:List Ins) (hl:0 < l.length∧l.length≤1000000) (K:List MB):call Tryz.prog pol1 44 [.sl false (l.map insAV)] K=some (.ms K.length 5 l.length 0 l.length,K++[.row 5 (l.map insAV) 0]):=by
 rw[call_eq]
 unfold evStep
 rw[if_neg (show ¬ pol1.pure 44=true by decide)]
 show cloneExtO 5 56 [.sl false (l.map insAV)] K=_
 have h1:((l.map insAV).all fun y=>decide (y.cells.length=5) && y.cells.all AV.ok)=true:=by
  rw[List.all_eq_true]
  intro y hy
  obtain⟨p,_,rfl⟩:=List.mem_map.1 hy
  rfl
 have h2:roomFor (l.map insAV).length 56=true:=room_ok (by simp;omega) (by omega)
 unfold cloneExtO
 simp only[elemsOf]
 rw[if_pos ⟨h1,h2⟩]
 cases l with
 | nil=>simp at hl
 | cons y ys=>simp
theorem call_frz2 {P:Program} {pol:Pol} {f:Nat} {args l:List AV} {H H1:List MB} (hp:pol.pure f=true) (h:frzArgs pol f 0 args H=some (l,H1)) (ha:AV.plainL l=true) :
  call P pol f args H=call P pol f l H1:=by
 have hf:∀(l:List AV) (i:Nat),AV.plainL l=true→frzArgs pol f i l H1=some (l,H1):=by
  intro l
  induction l with
  | nil=>intro i _;rfl
  | cons x l ih=>
    intro i h
    simp only[AV.plainL,Bool.and_eq_true]at h
    simp only[frzArgs,fz_plain H1 h.1,ih (i+1) h.2]
    split<;>simp_all
 rw[call_eq,call_eq]
 unfold evStep
 simp only[hp,if_true,h,hf l 0 ha]
theorem kf9n (g:Prg) (hb:PrgB g) (hl:Leads g.ins) (h0:0 < g.ins.length) (hN:g.ins.length≤8192) (size:Nat) (hs:1≤size∧size≤1024) (H:List MB) (h:acceptG g=0) :
  ∃ r,(∃ D C H' a,r=(AV.tup [.rf D 1 0 0,I 0],H')∧DI g.ins (stateL g.ins [0]) size (fun i=>i < H.length) D C a ⟨[],0,0⟩ H'∧KeepsLow (fun i=>i < H.length) H H')∧call Tryz.prog pol1 18 [prgAV g,I size] H=some r:=by
 have hv:=kf27 g hb
 rw[h]at hv
 have rp:∀ H1 r H,retPol pol1 18 H1 r H=some (r,H):=fun H1 r H=>rfl
 have hgl:=fun x:MB=>kget_last H x
 have hc30:=kf30l g.ins (by omega) hl [0] (by simp) (by simpa using h0)
 simp only[List.map_cons,List.map_nil]at hc30
 have hcl:=kf28n g.ins ⟨h0,by omega⟩
 refine call_run2E (pol:=pol1) Tryz.func18 rfl rfl rfl rfl (frzArgs_mix _ _ _ (by have h:=plain_prg g;simp only[mixOk,h,Bool.or_true,Bool.true_and];rfl)) ?_
 simp +contextual (disch:=omega) only[Tryz.f18,dd18,go_sem,simprocAttr,frzB,mu18,↓wrap_up,↓wrap_down,↓wrap_pred,↓wrap_sub_nat,hv,hgl,hcl]
 rw[List.append_assoc]
 simp only[List.cons_append,List.nil_append]
 have gg:∀ y z:MB,(H++[y,z])[H.length+1]?=some z:=fun y z=>by rw[List.getElem?_append_right (by omega)];simp
 have ss:∀ y z v:MB,(H++[y,z]).set (H.length+1) v=H++[y,v]:=fun y z v=>by rw[List.set_append_right _ _ (by omega)];simp
 refine W_count (M:=(mskOf (pol1.mask 18) (pol1.gc 18) (pol1.acts 18) 0 8)) rfl g.ins.length (fun i=>(⟨47,[(25,I i),(24,I g.ins.length),(7,.ms (H.length+1) 5 g.ins.length 0 g.ins.length),(1,I size)],H++[.row 3 [prgAV g] 0,.row 5 (g.ins.map insAV) 0]⟩:St)) (fun _=>True) ?_ ?_ trivial _ ?_
 ·intro i hi _
  obtain⟨p,hp⟩:∃ p,g.ins[i]?=some p:=⟨_,List.getElem?_eq_getElem hi⟩
  have hp':(g.ins.map insAV)[i]?=some (insAV p):=by simp[hp]
  have hset:(g.ins.map insAV).set i (insAV p)=g.ins.map insAV:=by
   apply List.ext_getElem?
   intro q
   by_cases e:i=q
   ·subst e;rw[List.getElem?_set_self (by simpa using hi),hp']
   ·rw[List.getElem?_set_ne e]
  have hc29:=fun x y:MB=>kf29n p.set (hb.2 p (List.mem_of_getElem? hp)) (H++[x]) y
  simp only[List.append_assoc,List.cons_append,List.nil_append]at hc29
  simp +contextual (disch:=omega) only[Tryz.f18,dd18,go_sem,simprocAttr,frzB,mu18,↓wrap_up,↓wrap_down,↓wrap_pred,↓wrap_sub_nat,gg,ss,hp',hc29,hset]
  rfl
 ·intro _
  have hcl30:call Tryz.prog pol1 36 [.ms (H.length+1) 5 g.ins.length 0 g.ins.length,.sl true [I 0]] (H++[.row 3 [prgAV g] 0,.row 5 (g.ins.map insAV) 0]) =
    some (.sl false ((stateL g.ins [0]).map NV),H++[.row 3 [prgAV g] 0,.row 5 (g.ins.map insAV) g.ins.length]):=by
   have hrow:getRow (H++[.row 3 [prgAV g] 0,.row 5 (g.ins.map insAV) 0]) (H.length+1)=some (5,g.ins.map insAV,0):=by unfold getRow;rw[gg]
   have hz:=fz_row (tot:=g.ins.length) hrow (by simp) (plain_ins g.ins)
   have hm:mark (H++[.row 3 [prgAV g] 0,.row 5 (g.ins.map insAV) 0]) (H.length+1) g.ins.length=H++[.row 3 [prgAV g] 0,.row 5 (g.ins.map insAV) g.ins.length]:=by
    unfold mark
    rw[hrow]
    simp only[ss,Nat.zero_max,Nat.max_eq_right (Nat.zero_le _)]
   rw[hm]at hz
   rw[call_frz2 (l:=[.sl false (g.ins.map insAV),.sl false [I 0]]) rfl ?_ (by simp[AV.plainL,AV.plain,plain_ins])]
   ·exact hc30 _
   ·have h1:pol1.byref 36 0=false:=rfl
    have h2:pol1.byref 36 (0+1)=false:=rfl
    simp only[frzArgs,h1,h2,Bool.false_eq_true,if_false,hz,fz_slp (l:=[I 0]) rfl]
  have hfrz:∀(n:Nat) (t:Tm),frzB ⟨n,t,H++[.row 3 [prgAV g] 0,.row 5 (g.ins.map insAV) g.ins.length]++[.mp .str []]++[.row 6 [.agg [.ms (H.length+1) 5 g.ins.length 0 g.ins.length,.sl false ((stateL g.ins [0]).map NV),I size,.mpr (H.length+2),.int .i64 0,.int .i64 0]] 0]⟩ (H.length+2+1) =
    ⟨n,t,H++[.row 3 [prgAV g] 0,.row 5 (g.ins.map insAV) g.ins.length,.mp .str [],.row 6 [dfaAV g.ins (stateL g.ins [0]) size (H.length+2) ⟨[],0,0⟩] 0]⟩:=by
   intro n t
   simp only[List.append_assoc,List.cons_append,List.nil_append]
   generalize hHH:H++[.row 3 [prgAV g] 0,.row 5 (g.ins.map insAV) g.ins.length,.mp .str [],.row 6 [.agg [.ms (H.length+1) 5 g.ins.length 0 g.ins.length,.sl false ((stateL g.ins [0]).map NV),I size,.mpr (H.length+2),.int .i64 0,.int .i64 0]] 0]=HH
   have r1:getRow HH (H.length+1)=some (5,g.ins.map insAV,g.ins.length):=by
    unfold getRow;rw[← hHH,List.getElem?_append_right (by omega)];simp
   have r3:getRow HH (H.length+2+1)=some (6,[.agg [.ms (H.length+1) 5 g.ins.length 0 g.ins.length,.sl false ((stateL g.ins [0]).map NV),I size,.mpr (H.length+2),.int .i64 0,.int .i64 0]],0):=by
    unfold getRow;rw[← hHH,List.getElem?_append_right (by omega)];simp[show H.length+2+1 - H.length=3 by omega]
   have hm:mark HH (H.length+1) g.ins.length=HH:=by
    unfold mark
    rw[r1]
    simp only[Nat.max_self]
    rw[← hHH,List.set_append_right _ _ (by omega)];simp
   have hz:=fzA_row (n:=5) (tot:=g.ins.length) r1 (by simp) (plain_ins g.ins)
   rw[hm]at hz
   have hp:=fzL_plain (fzJ 6) ((stateL g.ins [0]).map NV) HH (plain_nv _)
   have hfz:fzs [.agg [.ms (H.length+1) 5 g.ins.length 0 g.ins.length,.sl false ((stateL g.ins [0]).map NV),I size,.mpr (H.length+2),.int .i64 0,.int .i64 0]] HH=some ([dfaAV g.ins (stateL g.ins [0]) size (H.length+2) ⟨[],0,0⟩],HH):=by
    simp only[fzs,fzL,fzA_agg,hz,fzA_sl,hp,fzA_int]
    rfl
   unfold frzB
   simp only[r3,hfz,AV.beqL_refl,if_true]
   rw[← hHH,List.set_append_right _ _ (by omega)]
   simp[show H.length+2+1 - H.length=3 by omega]
  simp +contextual (disch:=omega) only[Tryz.f18,dd18,go_sem,simprocAttr,mu18,↓wrap_up,↓wrap_down,↓wrap_pred,↓wrap_sub_nat,gg,ss,hcl30,hfrz]
  refine⟨_,⟨_,H.length+2,_,⟨fun _=>none,fun _=>none⟩,rfl,?_,?_⟩,rp _ _ _⟩
  ·refine⟨?_,⟨fun i hi=>by simp;omega,⟨by omega,by omega⟩,fun i x h=>(by cases h),fun i x h=>(by cases h)⟩,⟨[],?_,rfl,fun i l h=>by simp at h⟩,fun t l f h=>(by cases h),fun q l h=>(by cases h),⟨by simp,by simp,by simp,hs.1,hs.2⟩⟩
   ·rw[List.getElem?_append_right (by omega)];simp[show H.length+2+1 - H.length=3 by omega]
   ·rw[List.getElem?_append_right (by omega)];simp
  ·exact⟨by simp,fun i hi=>List.getElem?_append_left hi⟩
 ·rfl
end
section
attribute [local go_sem] frzB
open Go.Proofs Go.RowKit Go.IntWalk
set_option maxRecDepth 100000
set_option maxHeartbeats 4000000
theorem kf25i (a b:List Int) (ha:a.length≤4000000000) (hb:b.length≤4000000000) (H:List MB):call Tryz.prog pol1 25 [.sl false (a.map I),.sl false (b.map I)] H=some (.bool (decide (a=b)),H):=by
 have hpa:=plain_ints a
 have hpb:=plain_ints b
 refine call_run Tryz.func25 rfl rfl rfl rfl rfl rfl (fun _=>rfl) (by simp[AV.plainL,AV.plain,hpa,hpb]) (by simp[AV.plain]) ?_ H
 by_cases hl:a.length=b.length
 ·simp +contextual (disch:=omega) only[Tryz.f25,dd25,go_sem,simprocAttr,evAppend,mu25,↓wrap_up,↓wrap_down,↓wrap_pred,↓wrap_sub_nat]
  refine W_count (M:=(mskOf (pol1.mask 25) (pol1.gc 25) (pol1.acts 25) 0 4)) rfl a.length (fun i=>(⟨26,[(5,I i),(1,.sl false (b.map I)),(0,.sl false (a.map I))],[]⟩:St)) (fun i=>∀ k,k < i→a[k]?=b[k]?) ?_ ?_ (fun k h=>by omega) _ (by first|rfl|(refine prep_cut rfl (by rfl) (by rfl) (by rfl) ?_ ?_<;>simp[AV.underL,AV.under,MB.under,underL_plain,under_plain,plain_ints,plain_span,plain_ins,plain_prg,-List.map_take]))
  ·intro i hi hg
   obtain⟨x,hx⟩:∃ x,a[i]?=some x:=⟨_,List.getElem?_eq_getElem hi⟩
   obtain⟨y,hy⟩:∃ y,b[i]?=some y:=⟨_,List.getElem?_eq_getElem (by omega)⟩
   have hx':(a.map I)[i]?=some (I x):=by simp[hx]
   have hy':(b.map I)[i]?=some (I y):=by simp[hy]
   by_cases he:x=y
   ·subst he
    simp +contextual (disch:=omega) only[Tryz.f25,dd25,go_sem,simprocAttr,evAppend,mu25,↓wrap_up,↓wrap_down,↓wrap_pred,↓wrap_sub_nat,hx',hy']
    refine⟨by unfold dOk;kernel_rfl,fun k hk=>?_,(by first|rfl|(refine prep_cut rfl (by rfl) (by rfl) (by rfl) ?_ ?_<;>simp[AV.underL,AV.under,MB.under,underL_plain,under_plain,plain_ints,plain_span,plain_ins,plain_prg,-List.map_take]))⟩
    rcases Nat.lt_succ_iff_lt_or_eq.1 hk with h|rfl
    ·exact hg k h
    ·rw[hx,hy]
   ·have hd:decide (a=b)=false:=decide_eq_false fun e=>by rw[e,hy]at hx;exact he (Option.some.inj hx).symm
    rw[hd]
    simp +contextual (disch:=omega) only[Tryz.f25,dd25,go_sem,simprocAttr,evAppend,mu25,↓wrap_up,↓wrap_down,↓wrap_pred,↓wrap_sub_nat,hx',hy']
    repeat' (first|intro _|apply And.intro|(unfold dOk;kernel_rfl)|exact St.beq_refl _|(show altO _ _ _ _=true;kernel_rfl)|(show (_ || _)=true;kernel_rfl)|(show (_ && _)=true;kernel_rfl))
    all_goals exact fzEq rfl rfl
  ·intro hg
   have hd:decide (a=b)=true:=decide_eq_true (List.ext_getElem? fun k=>by
    by_cases hk:k < a.length
    ·exact hg k hk
    ·rw[List.getElem?_eq_none (by omega),List.getElem?_eq_none (by omega)])
   rw[hd]
   simp +contextual (disch:=omega) only[Tryz.f25,dd25,go_sem,simprocAttr,evAppend,mu25,↓wrap_up,↓wrap_down,↓wrap_pred,↓wrap_sub_nat]
   exact fzEq rfl rfl
 ·have hd:decide (a=b)=false:=decide_eq_false fun e=>hl (by rw[e])
  rw[hd]
  have hne:(a.length:Int)≠b.length:=by omega
  simp +contextual (disch:=omega) only[Tryz.f25,dd25,go_sem,simprocAttr,evAppend,mu25,↓wrap_up,↓wrap_down,↓wrap_pred,↓wrap_sub_nat]
  exact fzEq rfl rfl
abbrev lvAV (l:List Nat):AV:=.sl false (l.map NV)
end
abbrev Spans:=List (Int×Int)
def addI (O:Spans) (p:Int×Int):Spans:=
 match O.getLast? with
 | some q=>if p.1≤q.2+1 then O.dropLast++[(q.1,max q.2 p.2)] else O++[p]
 | none=>[p]
theorem addI_nil (p:Int×Int):addI [] p=[p]:=rfl
theorem addI_snoc (O:Spans) (q p:Int×Int):addI (O++[q]) p=if p.1≤q.2+1 then O++[(q.1,max q.2 p.2)] else O++[q]++[p]:=by
 simp[addI]
theorem addI_len (O:Spans) (p:Int×Int):O.length≤(addI O p).length∧(addI O p).length≤O.length+1∧0 < (addI O p).length:=by
 rcases List.eq_nil_or_concat O with rfl|⟨O',q,rfl⟩
 ·simp[addI_nil]
 ·rw[List.concat_eq_append,addI_snoc]
  split<;>simp
structure SetV (s:Spans):Prop where
 sep:s.Pairwise fun p q=>p.2+2≤q.1
 good:∀ p∈s,0≤p.1∧p.1≤p.2∧p.2≤1114111
def colA (L:List Spans) (x:Int):List Bool:=L.map fun s=>hasSpan s x
def lastP (E:List Int) (top:Int) (k:Nat):Int:=(E[k]?).getD (top+1)
def pieceA (E:List Int) (top:Int) (k:Nat):Int×Int:=(lastP E top k,lastP E top (k+1) - 1)
def colK (L:List Spans) (E:List Int) (top:Int) (k:Nat):List Bool:=colA L (lastP E top k)
section classes
variable (col:Nat→List Bool) (pc:Nat→Int×Int)
def firsts:Nat→List (List Bool)
 | 0=>[]
 | n+1=>if col n∈firsts n then firsts n else firsts n++[col n]
def clsOf (c:List Bool):Nat→Spans
 | 0=>[]
 | n+1=>if col n=c then addI (clsOf c n) (pc n) else clsOf c n
def classesA (n:Nat):List Spans:=(firsts col n).map fun c=>clsOf col pc c n
def tooBig (n:Nat):Prop:=1024 < (firsts col n).length∨∃ c∈firsts col n,64 < (clsOf col pc c n).length
variable {col pc}
theorem firsts_mem {c:List Bool}:∀ {n:Nat},c∈firsts col n↔∃ k,k < n∧col k=c
 | 0=>by simp[firsts]
 | n+1=>by
   have ih:=firsts_mem (c:=c) (n:=n)
   have e:(∃ k,k < n+1∧col k=c)↔(c∈firsts col n∨col n=c):=by
    rw[ih]
    constructor
    ·rintro⟨k,h1,h2⟩
     rcases Nat.lt_succ_iff_lt_or_eq.1 h1 with h3|rfl
     ·exact .inl ⟨k,h3,h2⟩
     ·exact .inr h2
    ·rintro(⟨k,h1,h2⟩|h)
     ·exact⟨k,by omega,h2⟩
     ·exact⟨n,by omega,h⟩
   rw[e]
   simp only[firsts]
   split
   ·rename_i h
    exact⟨.inl,fun h1=>h1.elim id fun h2=>h2 ▸ h⟩
   ·rw[List.mem_append,List.mem_singleton]
    exact⟨fun h1=>h1.imp id Eq.symm,fun h1=>h1.imp id Eq.symm⟩
theorem firsts_nodup:∀ n,(firsts col n).Nodup
 | 0=>.nil
 | n+1=>by
   simp only[firsts]
   split
   ·exact firsts_nodup n
   ·rename_i h
    exact List.nodup_append.2 ⟨firsts_nodup n,by simp,fun x hx y hy e=>h (by rw[← List.mem_singleton.1 hy,← e];exact hx)⟩
theorem firsts_pre (n:Nat):∃ m,firsts col (n+1)=firsts col n++m:=by
 simp only[firsts]
 split
 ·exact⟨[],by simp⟩
 ·exact⟨_,rfl⟩
theorem firsts_le {n m:Nat} (h:n≤m):∃ k,firsts col m=firsts col n++k:=by
 induction h with
 | refl=>exact⟨[],by simp⟩
 | step h ih=>
   obtain⟨k,hk⟩:=ih
   obtain⟨k2,hk2⟩:=firsts_pre (col:=col) _
   exact⟨k++k2,by rw[hk2,hk,List.append_assoc]⟩
theorem clsOf_len_le (c:List Bool) {n m:Nat} (h:n≤m):(clsOf col pc c n).length≤(clsOf col pc c m).length:=by
 induction h with
 | refl=>exact Nat.le_refl _
 | @step m h ih=>
   simp only[clsOf]
   split
   ·have:=(addI_len (clsOf col pc c m) (pc m)).1;omega
   ·exact ih
theorem clsOf_nil {c:List Bool} {n:Nat} (h:c ∉ firsts col n):clsOf col pc c n=[]:=by
 induction n with
 | zero=>rfl
 | succ n ih=>
   have h2:c ∉ firsts col n:=fun hm=>h (by
    obtain⟨m,e⟩:=firsts_pre (col:=col) n
    rw[e];exact List.mem_append_left _ hm)
   have h3:col n≠c:=fun e=>h (firsts_mem.2 ⟨n,by omega,e⟩)
   simp only[clsOf,if_neg h3]
   exact ih h2
theorem clsOf_pos {c:List Bool} {n:Nat} (h:c∈firsts col n):0 < (clsOf col pc c n).length:=by
 induction n with
 | zero=>simp[firsts]at h
 | succ n ih=>
   simp only[clsOf]
   split
   ·exact(addI_len _ _).2.2
   ·rename_i h3
    refine ih ?_
    obtain⟨k,h1,h2⟩:=firsts_mem.1 h
    rcases Nat.lt_succ_iff_lt_or_eq.1 h1 with h4|rfl
    ·exact firsts_mem.2 ⟨k,h4,h2⟩
    ·exact absurd h2 h3
theorem tooBig_mono {n m:Nat} (h:n≤m) (hb:tooBig col pc n):tooBig col pc m:=by
 obtain⟨k,hk⟩:=firsts_le (col:=col) h
 rcases hb with hb|⟨c,hc,hl⟩
 ·left;rw[hk,List.length_append];omega
 ·right
  exact⟨c,by rw[hk];exact List.mem_append_left _ hc,Nat.lt_of_lt_of_le hl (clsOf_len_le c h)⟩
theorem classes_len (n:Nat):(classesA col pc n).length=(firsts col n).length:=by simp[classesA]
theorem classes_old {n j:Nat} (h:(firsts col n)[j]?=some (col n)):firsts col (n+1)=firsts col n∧classesA col pc (n+1)=(classesA col pc n).set j (addI (clsOf col pc (col n) n) (pc n))∧(classesA col pc n)[j]?=some (clsOf col pc (col n) n):=by
 have hm:col n∈firsts col n:=List.mem_of_getElem? h
 have h1:firsts col (n+1)=firsts col n:=by simp only[firsts,if_pos hm]
 refine⟨h1,?_,by simp[classesA,h]⟩
 have hj:=(List.getElem?_eq_some_iff.1 h).1
 refine List.ext_getElem? fun i=>?_
 rw[List.getElem?_set]
 unfold classesA
 rw[h1,List.getElem?_map,List.getElem?_map,List.length_map]
 by_cases e:j=i
 ·subst e
  rw[if_pos rfl,if_pos hj,h]
  simp[clsOf]
 ·rw[if_neg e]
  rcases Nat.lt_or_ge i (firsts col n).length with hi|hi
  ·have hne:col n≠(firsts col n)[i]:=fun e2=>by
    have h3:=(List.getElem?_eq_some_iff.1 h).2
    have hnd:=List.pairwise_iff_getElem.1 (firsts_nodup (col:=col) n)
    rcases Nat.lt_or_gt_of_ne e with h4|h4
    ·exact hnd j i hj hi h4 (h3.trans e2)
    ·exact hnd i j hi hj h4 (e2.symm.trans h3.symm)
   rw[List.getElem?_eq_getElem hi]
   simp[clsOf,hne]
  ·rw[List.getElem?_eq_none hi];rfl
theorem classes_new {n:Nat} (h:col n ∉ firsts col n):firsts col (n+1)=firsts col n++[col n]∧classesA col pc (n+1)=classesA col pc n++[[pc n]]:=by
 have h1:firsts col (n+1)=firsts col n++[col n]:=by simp only[firsts,if_neg h]
 refine⟨h1,?_⟩
 unfold classesA
 rw[h1,List.map_append]
 congr 1
 ·refine List.map_congr_left fun c hc=>?_
  have:col n≠c:=fun e=>h (by rw[e];exact hc)
  simp[clsOf,this]
 ·simp[clsOf,clsOf_nil h,addI_nil]
end classes
open Classical in
noncomputable def splitA (L:List Spans) (E:List Int) (top:Int):Option (List Spans):=
 if tooBig (colK L E top) (pieceA E top) E.length then none else some (classesA (colK L E top) (pieceA E top) E.length)
theorem splitA_bad {L:List Spans} {E:List Int} {top:Int} {n:Nat} (hn:n≤E.length) (h:tooBig (colK L E top) (pieceA E top) n):splitA L E top=none:=by
 unfold splitA
 rw[if_pos (tooBig_mono hn h)]
theorem splitA_ok {L:List Spans} {E:List Int} {top:Int} (h:¬ tooBig (colK L E top) (pieceA E top) E.length):splitA L E top=some (classesA (colK L E top) (pieceA E top) E.length):=by
 unfold splitA
 rw[if_neg h]
def putL (l:List Int) (n top:Int):List Int:=
 if n > top∨n∈l then l else l.filter (fun x=>decide (x < n))++[n]++l.filter (fun x=>decide (n < x))
def putS (top:Int) (l:List Int) (s:Spans):List Int:=s.foldl (fun l p=>putL (putL l p.1 top) (p.2+1) top) l
def endsR (L:List Spans) (top:Int):List Int:=L.foldl (putS top) [0]
structure EndsOk (top:Int) (l:List Int):Prop where
 sorted:l.Pairwise (·< ·)
 le:∀ x∈l,0≤x∧x≤top
 zero:0∈l
theorem putL_mem {l:List Int} {n top x:Int}:x∈putL l n top↔x∈l∨(x=n∧n≤top):=by
 unfold putL
 split
 ·rename_i h
  constructor
  ·exact .inl
  ·rintro(h1|⟨rfl,h1⟩)
   ·exact h1
   ·rcases h with h|h
    ·omega
    ·exact h
 ·rename_i h
  have h1:n≤top:=by omega
  have h2:n ∉ l:=fun e=>h (.inr e)
  simp only[List.mem_append,List.mem_filter,List.mem_singleton,decide_eq_true_eq]
  constructor
  ·rintro((⟨h3,h4⟩|rfl)|⟨h3,h4⟩)
   ·exact .inl h3
   ·exact .inr ⟨rfl,h1⟩
   ·exact .inl h3
  ·rintro(h3|⟨rfl,h4⟩)
   ·rcases Int.lt_trichotomy x n with h5|h5|h5
    ·exact .inl (.inl ⟨h3,h5⟩)
    ·exact .inl (.inr h5)
    ·exact .inr ⟨h3,h5⟩
   ·exact .inl (.inr rfl)
theorem EndsOk.put {top:Int} {l:List Int} (h:EndsOk top l) {n:Int} (hn:0≤n):EndsOk top (putL l n top):=by
 refine⟨?_,fun x hx=>?_,putL_mem.2 (.inl h.zero)⟩
 ·unfold putL
  split
  ·exact h.sorted
  ·refine List.pairwise_append.2 ⟨List.pairwise_append.2 ⟨h.sorted.filter _,by simp,fun a ha b hb=>?_⟩,h.sorted.filter _,fun a ha b hb=>?_⟩
   ·rw[List.mem_singleton.1 hb]
    have:=(List.mem_filter.1 ha).2
    simpa using this
   ·have h2:=(List.mem_filter.1 hb).2
    simp at h2
    rcases List.mem_append.1 ha with ha|ha
    ·have:=(List.mem_filter.1 ha).2
     simp at this;omega
    ·rw[List.mem_singleton.1 ha];exact h2
 ·rcases putL_mem.1 hx with h1|⟨rfl,h1⟩
  ·exact h.le x h1
  ·exact⟨hn,h1⟩
theorem putL_len (l:List Int) (n top:Int):(putL l n top).length≤l.length+1:=by
 unfold putL
 split
 ·omega
 ·rename_i h
  have h2:n ∉ l:=fun e=>h (.inr e)
  have h3:∀ l:List Int,(l.filter fun x=>decide (x < n)).length+(l.filter fun x=>decide (n < x)).length≤l.length:=by
   intro l
   induction l with
   | nil=>simp
   | cons a l ih=>
     by_cases h5:a < n
     ·have h6:¬ n < a:=by omega
      simp[List.filter_cons,h5,h6];omega
     ·by_cases h6:n < a
      ·simp[List.filter_cons,h5,h6];omega
      ·simp[List.filter_cons,h5,h6];omega
  have:=h3 l
  simp only[List.length_append,List.length_singleton];omega
theorem putS_ok {top:Int}:∀ {s:Spans} {l:List Int},EndsOk top l→(∀ p∈s,0≤p.1∧p.1≤p.2)→EndsOk top (putS top l s)∧(putS top l s).length≤l.length+2 * s.length ∧
  ∀ x,x∈putS top l s↔x∈l∨∃ p∈s,(x=p.1∨x=p.2+1)∧x≤top
 | [],l,h,_=>⟨h,by simp[putS],fun x=>by simp[putS]⟩
 | p::s,l,h,hs=>by
   have hp:=hs p (by simp)
   obtain⟨h1,h2,h3⟩:=putS_ok (s:=s) ((h.put hp.1).put (n:=p.2+1) (by omega)) (fun q hq=>hs q (by simp[hq]))
   have l1:=putL_len l p.1 top
   have l2:=putL_len (putL l p.1 top) (p.2+1) top
   refine⟨h1,?_,fun x=>?_⟩
   ·show (putS top (putL (putL l p.1 top) (p.2+1) top) s).length≤_
    simp only[List.length_cons];omega
   ·show x∈putS top (putL (putL l p.1 top) (p.2+1) top) s↔_
    rw[h3,putL_mem,putL_mem]
    constructor
    ·rintro(((h4|⟨rfl,h4⟩)|⟨rfl,h4⟩)|⟨q,h4,h5⟩)
     ·exact .inl h4
     ·exact .inr ⟨p,by simp,.inl rfl,h4⟩
     ·exact .inr ⟨p,by simp,.inr rfl,h4⟩
     ·exact .inr ⟨q,by simp[h4],h5⟩
    ·rintro(h4|⟨q,h4,h5,h6⟩)
     ·exact .inl (.inl (.inl h4))
     ·rcases List.mem_cons.1 h4 with rfl|h4
      ·rcases h5 with rfl|rfl
       ·exact .inl (.inl (.inr ⟨rfl,h6⟩))
       ·exact .inl (.inr ⟨rfl,h6⟩)
      ·exact .inr ⟨q,h4,h5,h6⟩
theorem endsR_go {top:Int}:∀ {L:List Spans} {l:List Int},EndsOk top l→(∀ s∈L,∀ p∈s,0≤p.1∧p.1≤p.2)→EndsOk top (L.foldl (putS top) l) ∧
  ∀ x,x∈L.foldl (putS top) l↔x∈l∨∃ s∈L,∃ p∈s,(x=p.1∨x=p.2+1)∧x≤top
 | [],l,h,_=>⟨h,fun x=>by simp⟩
 | s::L,l,h,hs=>by
   obtain⟨h1,_,h2⟩:=putS_ok (s:=s) h (hs s (by simp))
   obtain⟨h3,h4⟩:=endsR_go (L:=L) h1 (fun t ht=>hs t (by simp[ht]))
   refine⟨h3,fun x=>?_⟩
   show x∈L.foldl (putS top) (putS top l s)↔_
   rw[h4,h2]
   constructor
   ·rintro((h5|⟨p,h5,h6⟩)|⟨t,h5,p,h6,h7⟩)
    ·exact .inl h5
    ·exact .inr ⟨s,by simp,p,h5,h6⟩
    ·exact .inr ⟨t,by simp[h5],p,h6,h7⟩
   ·rintro(h5|⟨t,h5,p,h6,h7⟩)
    ·exact .inl (.inl h5)
    ·rcases List.mem_cons.1 h5 with rfl|h5
     ·exact .inl (.inr ⟨p,h6,h7⟩)
     ·exact .inr ⟨t,h5,p,h6,h7⟩
theorem ends0 {top:Int} (h:0≤top):EndsOk top [0]:=⟨by simp,fun x hx=>by rw[List.mem_singleton.1 hx];omega,by simp⟩
theorem endsR_ok {L:List Spans} {top:Int} (h:0≤top) (hs:∀ s∈L,SetV s):EndsOk top (endsR L top):=(endsR_go (ends0 h) fun s hs' p hp=>⟨((hs s hs').good p hp).1,((hs s hs').good p hp).2.1⟩).1
theorem endsR_mem {L:List Spans} {top:Int} (h:0≤top) (hs:∀ s∈L,SetV s) {x:Int}:x∈endsR L top↔x=0∨∃ s∈L,∃ p∈s,(x=p.1∨x=p.2+1)∧x≤top:=by
 have:=(endsR_go (ends0 h) fun s hs' p hp=>⟨((hs s hs').good p hp).1,((hs s hs').good p hp).2.1⟩).2 x
 rw[List.mem_singleton]at this
 exact this
def endS (top:Int) (i:Nat) (s:Spans):List (Int×Int):=s.flatMap fun p=>(if p.1≤top then [(p.1,(i:Int))] else [])++(if p.2+1≤top then [(p.2+1,(i:Int))] else [])
def endsP (top:Int):Nat→List Spans→List (Int×Int)
 | _,[]=>[]
 | i,s::L=>endS top i s++endsP top (i+1) L
theorem endS_mem {top:Int} {i:Nat} {s:Spans} {e:Int×Int}:e∈endS top i s↔e.2=i∧∃ p∈s,(e.1=p.1∨e.1=p.2+1)∧e.1≤top:=by
 unfold endS
 simp only[List.mem_flatMap,List.mem_append]
 constructor
 ·rintro⟨p,hp,h|h⟩
  ·split at h
   ·rw[List.mem_singleton.1 h];exact⟨rfl,p,hp,.inl rfl,by assumption⟩
   ·simp at h
  ·split at h
   ·rw[List.mem_singleton.1 h];exact⟨rfl,p,hp,.inr rfl,by assumption⟩
   ·simp at h
 ·rintro⟨h1,p,hp,h2,h3⟩
  obtain⟨a,b⟩:=e
  simp only at h1 h2 h3
  refine⟨p,hp,?_⟩
  rcases h2 with rfl|rfl
  ·left;rw[if_pos h3,h1];simp
  ·right;rw[if_pos h3,h1];simp
theorem endsP_mem {top:Int}:∀ {L:List Spans} {i:Nat} {e:Int×Int},e∈endsP top i L→(∃ k:Nat,e.2=(k:Int)∧i≤k∧k < i+L.length)∧∃ s∈L,∃ p∈s,(e.1=p.1∨e.1=p.2+1)∧e.1≤top
 | [],i,e,h=>by simp[endsP]at h
 | s::L,i,e,h=>by
   rcases List.mem_append.1 h with h|h
   ·obtain⟨h1,h2⟩:=endS_mem.1 h
    exact⟨⟨i,h1,by omega,by simp only[List.length_cons];omega⟩,s,by simp,h2⟩
   ·obtain⟨⟨k,h1,h2,h3⟩,t,ht,h4⟩:=endsP_mem h
    exact⟨⟨k,h1,by omega,by simp only[List.length_cons];omega⟩,t,by simp[ht],h4⟩
theorem endsP_has {top:Int} {x:Int}:∀ {L:List Spans} {i:Nat},(∃ s∈L,∃ p∈s,(x=p.1∨x=p.2+1)∧x≤top)→∃ e∈endsP top i L,e.1=x
 | [],i,⟨s,h,_⟩=>by simp at h
 | s::L,i,⟨t,ht,h⟩=>by
   rcases List.mem_cons.1 ht with rfl|ht
   ·exact⟨(x,(i:Int)),List.mem_append_left _ (endS_mem.2 ⟨rfl,h⟩),rfl⟩
   ·obtain⟨e,he,h2⟩:=endsP_has (L:=L) (i:=i+1) ⟨t,ht,h⟩
    exact⟨e,List.mem_append_right _ he,h2⟩
theorem endS_len (top:Int) (i:Nat) (s:Spans):(endS top i s).length≤2 * s.length:=by
 unfold endS
 induction s with
 | nil=>simp
 | cons p s ih=>
   simp only[List.flatMap_cons,List.length_append,List.length_cons]at ih ⊢
   have h1:(if p.1≤top then [(p.1,(i:Int))] else []).length≤1:=by split<;>simp
   have h2:(if p.2+1≤top then [(p.2+1,(i:Int))] else []).length≤1:=by split<;>simp
   omega
theorem endsP_len {top:Int}:∀ {L:List Spans} {i:Nat},(∀ s∈L,s.length≤64)→(endsP top i L).length≤128 * L.length
 | [],i,_=>by simp[endsP]
 | s::L,i,h=>by
   have h1:=endS_len top i s
   have h2:=endsP_len (top:=top) (L:=L) (i:=i+1) (fun t ht=>h t (by simp[ht]))
   have h3:=h s (by simp)
   simp only[endsP,List.length_append,List.length_cons];omega
theorem count_set {s:Spans} (h:SetV s) {x top:Int} (hx:x≤top) (i:Nat):(endS top i s).countP (fun e=>decide (e.1≤x)) % 2=if hasSpan s x then 1 else 0:=by
 have key:∀ s:Spans,(s.Pairwise fun p q=>p.2+2≤q.1)→(∀ p∈s,p.1≤p.2)→(endS top i s).countP (fun e=>decide (e.1≤x)) % 2=if hasSpan s x then 1 else 0:=by
  intro s
  induction s with
  | nil=>intro _ _;rfl
  | cons p s ih=>
    intro h1 h2
    have ih:=ih (List.Pairwise.of_cons h1) (fun q hq=>h2 q (by simp[hq]))
    have hp:=h2 p (by simp)
    have h3:=(List.pairwise_cons.1 h1).1
    have e:endS top i (p::s)=((if p.1≤top then [(p.1,(i:Int))] else [])++(if p.2+1≤top then [(p.2+1,(i:Int))] else []))++endS top i s:=rfl
    have hh:hasSpan (p::s) x=((decide (p.1≤x) && decide (x≤p.2)) || hasSpan s x):=rfl
    have c1:(if p.1≤top then [(p.1,(i:Int))] else []).countP (fun e=>decide (e.1≤x))=if p.1≤x then 1 else 0:=by
     by_cases h4:p.1≤x
     ·rw[if_pos (show p.1≤top by omega),if_pos h4];simp[h4]
     ·rw[if_neg h4];split<;>simp[h4]
    have c2:(if p.2+1≤top then [(p.2+1,(i:Int))] else []).countP (fun e=>decide (e.1≤x))=if p.2+1≤x then 1 else 0:=by
     by_cases h4:p.2+1≤x
     ·rw[if_pos (show p.2+1≤top by omega),if_pos h4];simp[h4]
     ·rw[if_neg h4];split<;>simp[h4]
    rw[e,List.countP_append,List.countP_append,c1,c2,hh]
    by_cases h4:p.1≤x
    ·by_cases h5:x≤p.2
     ·have h6:hasSpan s x=false:=by
       unfold hasSpan
       rw[List.any_eq_false]
       intro q hq
       have:=h3 q hq
       simp;omega
      have h7:¬ p.2+1≤x:=by omega
      rw[h6]at ih
      simp only[h6,h4,h5,h7,if_true,if_false,decide_true,Bool.and_self,Bool.or_false]
      simp at ih ⊢;omega
     ·have h7:p.2+1≤x:=by omega
      simp only[h4,h5,h7,if_true,decide_true,decide_false,Bool.and_false,Bool.false_or]
      rw[← ih];omega
    ·have h7:¬ p.2+1≤x:=by omega
     simp only[h4,h7,if_false,decide_false,Bool.false_and,Bool.false_or]
     rw[← ih];simp
 exact key s h.sep (fun p hp=>(h.good p hp).2.1)
theorem endS_other {top:Int} {i j:Nat} (h:i≠j) (s:Spans) (x:Int):(endS top i s).countP (fun e=>decide (e.1≤x) && decide (e.2=(j:Int)))=0:=by
 rw[List.countP_eq_zero]
 intro e he
 have:=(endS_mem.1 he).1
 simp[this]
 intro _;omega
theorem endS_same {top:Int} {i:Nat} (s:Spans) (x:Int):(endS top i s).countP (fun e=>decide (e.1≤x) && decide (e.2=(i:Int)))=(endS top i s).countP (fun e=>decide (e.1≤x)):=by
 refine List.countP_congr fun e he=>?_
 have:=(endS_mem.1 he).1
 simp[this]
theorem count_ends {top x:Int} (hx:x≤top):∀ {L:List Spans} {i j:Nat},(∀ s∈L,SetV s)→i≤j→(endsP top i L).countP (fun e=>decide (e.1≤x) && decide (e.2=(j:Int))) % 2=if(colA L x).getD (j - i) false then 1 else 0
 | [],i,j,_,_=>by simp[endsP,colA]
 | s::L,i,j,h,hij=>by
   simp only[endsP,List.countP_append]
   rcases Nat.lt_or_ge i j with h1|h1
   ·have ih:=count_ends hx (L:=L) (i:=i+1) (j:=j) (fun t ht=>h t (by simp[ht])) h1
    rw[endS_other (by omega),Nat.zero_add,ih]
    obtain⟨k,rfl⟩:∃ k,j=i+1+k:=⟨j - (i+1),by omega⟩
    have e1:i+1+k - (i+1)=k:=by omega
    have e2:i+1+k - i=k+1:=by omega
    rw[e1,e2]
    simp[colA]
   ·obtain rfl:j=i:=by omega
    have h2:(endsP top (j+1) L).countP (fun e=>decide (e.1≤x) && decide (e.2=(j:Int)))=0:=by
     rw[List.countP_eq_zero]
     intro e he
     obtain⟨⟨k,h3,h4,h5⟩,_⟩:=endsP_mem he
     simp[h3]
     intro _;omega
    rw[h2,Nat.add_zero,endS_same,count_set (h s (by simp)) hx]
    simp[colA]
end Go.Ev
