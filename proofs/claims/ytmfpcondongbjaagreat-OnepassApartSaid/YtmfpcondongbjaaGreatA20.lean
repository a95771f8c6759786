/- Functions of the program, each with what it computes; no further conditions. -/
import Derived.Test.YtmfpcondongbjaaGreatA19
import Derived.Test.YtmfpcondongbjaaGreatA07
import Derived.Test.YtmfpcondongbjaaGreatA17
import Derived.Test.YtmfpcondongbjaaGreatA16
set_option linter.unusedVariables false
set_option linter.unusedSimpArgs false
namespace Go.Ev
def repO (f:Nat→List Nat) (mn mx md:Int):Nat→Int→Nat→List Nat
 | 0,_,_=>[]
 | n+1,k,i=>
   if k < mn then(f i).flatMap (repO f mn mx md n (k+1))
   else if md=1 then i::(if mx = -1∨k < mx then(f i).flatMap (repO f mn mx md n (k+1)) else [])
   else(if mx = -1∨k < mx then(f i).flatMap (repO f mn mx md n (k+1)) else [])++[i]
def repC (f:Nat→List Nat) (g:Nat→Nat) (mn mx:Int):Nat→Int→Nat→Nat
 | 0,_,_=>0
 | n+1,k,i=>1+(if k < mn∨mx = -1∨k < mx then g i+((f i).map (repC f g mn mx n (k+1))).sum else 0)
mutual
def outs (t:List Int):Re→Nat→List Nat
 | .mk op set kids mn mx md n neg,i=>
   if op=1 then(match t[i]? with
    | some x=>if hasSpan set x=true then [i+1] else []
    | none=>[])
   else if op=2 then outsC t kids i
   else if op=3 then outsA t kids i
   else if op=4 then repO (outsH t kids) mn mx md (t.length+1 - i) 0 i
   else if op=5 then outsH t kids i
   else if op=11 then(if assertI n (befS t i) t[i]?=true then [i] else [])
   else [i]
def outsC (t:List Int):List Re→Nat→List Nat
 | [],i=>[i]
 | k::ks,i=>(outs t k i).flatMap (outsC t ks)
def outsA (t:List Int):List Re→Nat→List Nat
 | [],_=>[]
 | k::ks,i=>outs t k i++outsA t ks i
def outsH (t:List Int):List Re→Nat→List Nat
 | [],_=>[]
 | k::_,i=>outs t k i
end
mutual
def costR (t:List Int):Re→Nat→Nat
 | .mk op set kids mn mx md n neg,i=>
   if op=2 then 1+costRC t kids i
   else if op=3 then 1+costRA t kids i
   else if op=4 then repC (outsH t kids) (costRH t kids) mn mx (t.length+1 - i) 0 i
   else if op=5 then 1+costRH t kids i
   else 1
def costRC (t:List Int):List Re→Nat→Nat
 | [],_=>0
 | k::ks,i=>costR t k i+((outs t k i).map (costRC t ks)).sum
def costRA (t:List Int):List Re→Nat→Nat
 | [],_=>0
 | k::ks,i=>costR t k i+costRA t ks i
def costRH (t:List Int):List Re→Nat→Nat
 | [],_=>0
 | k::_,i=>costR t k i
end
theorem repO_in {f:Nat→List Nat} {mn mx md:Int} {L:Nat} (hf:∀ i,i≤L→∀ j∈f i,i≤j∧j≤L):∀(n:Nat) (k:Int) (i:Nat),i≤L→∀ j∈repO f mn mx md n k i,i≤j∧j≤L
 | 0,_,_,_,j,h=>by simp[repO]at h
 | n+1,k,i,hi,j,h=>by
   have A:∀ j∈(f i).flatMap (repO f mn mx md n (k+1)),i≤j∧j≤L:=fun j h=>by
    obtain⟨m,hm,h⟩:=List.mem_flatMap.1 h
    have h1:=hf i hi m hm
    have h2:=repO_in hf n (k+1) m h1.2 j h
    omega
   rw[repO]at h
   split at h
   ·exact A j h
   ·split at h
    ·rcases List.mem_cons.1 h with rfl|h
     ·exact⟨Nat.le_refl _,hi⟩
     ·split at h
      ·exact A j h
      ·simp at h
    ·rcases List.mem_append.1 h with h|h
     ·split at h
      ·exact A j h
      ·simp at h
     ·rw[List.mem_singleton.1 h];exact⟨Nat.le_refl _,hi⟩
mutual
theorem zD2 (t:List Int):∀(r:Re) (i:Nat),i≤t.length→∀ j∈outs t r i,i≤j∧j≤t.length
 | .mk op set kids mn mx md n neg,i,hi,j,h=>by
   have hC:=zHg t kids
   have hA:=outsA_in t kids
   have hH:=outsH_in t kids
   rw[outs]at h
   split at h
   ·split at h
    ·rename_i x hx
     have:=(List.getElem?_eq_some_iff.1 hx).1
     split at h
     ·rw[List.mem_singleton.1 h];omega
     ·simp at h
    ·simp at h
   ·split at h
    ·exact hC i hi j h
    ·split at h
     ·exact hA i hi j h
     ·split at h
      ·exact repO_in hH _ _ i hi j h
      ·split at h
       ·exact hH i hi j h
       ·split at h
        ·split at h
         ·rw[List.mem_singleton.1 h];omega
         ·simp at h
        ·rw[List.mem_singleton.1 h];omega
theorem zHg (t:List Int):∀(l:List Re) (i:Nat),i≤t.length→∀ j∈outsC t l i,i≤j∧j≤t.length
 | [],i,hi,j,h=>by rw[outsC,List.mem_singleton]at h;omega
 | k::ks,i,hi,j,h=>by
   rw[outsC]at h
   obtain⟨m,hm,h⟩:=List.mem_flatMap.1 h
   have h1:=zD2 t k i hi m hm
   have h2:=zHg t ks m h1.2 j h
   omega
theorem outsA_in (t:List Int):∀(l:List Re) (i:Nat),i≤t.length→∀ j∈outsA t l i,i≤j∧j≤t.length
 | [],i,hi,j,h=>by simp[outsA]at h
 | k::ks,i,hi,j,h=>by
   rw[outsA]at h
   rcases List.mem_append.1 h with h|h
   ·exact zD2 t k i hi j h
   ·exact outsA_in t ks i hi j h
theorem outsH_in (t:List Int):∀(l:List Re) (i:Nat),i≤t.length→∀ j∈outsH t l i,i≤j∧j≤t.length
 | [],i,hi,j,h=>by simp[outsH]at h
 | k::ks,i,hi,j,h=>by
   rw[outsH]at h
   exact zD2 t k i hi j h
end
theorem repO_pos {f:Nat→List Nat} {mn mx md:Int} {L:Nat} (hf:∀ i,i≤L→∀ j∈f i,i < j∧j≤L) (hm:0 < mn):∀(n:Nat) (i:Nat),i≤L→∀ j∈repO f mn mx md n 0 i,i < j
 | 0,_,_,j,h=>by simp[repO]at h
 | n+1,i,hi,j,h=>by
   rw[repO,if_pos hm]at h
   obtain⟨m,hm',h⟩:=List.mem_flatMap.1 h
   have h1:=hf i hi m hm'
   have h2:=repO_in (fun i hi j hj=>⟨Nat.le_of_lt (hf i hi j hj).1,(hf i hi j hj).2⟩) n _ m h1.2 j h
   omega
mutual
theorem zFn (t:List Int):∀(r:Re) (i:Nat),nullG r=false→codable r=true→i≤t.length→∀ j∈outs t r i,i < j
 | .mk op set kids mn mx md n neg,i,hn,hc,hi,j,h=>by
   have hC:=outsC_pos t kids
   have hA:=outsA_pos t kids
   have hH:=outsH_pos t kids
   rw[codable,Bool.and_eq_true,Bool.or_eq_true,decide_eq_true_eq,beq_iff_eq]at hc
   rw[nullG]at hn
   rw[outs]at h
   split at h
   ·split at h
    ·split at h
     ·rw[List.mem_singleton.1 h];omega
     ·simp at h
    ·simp at h
   ·rename_i h1
    rw[if_neg h1]at hn
    split at h
    ·rename_i h2
     rw[if_pos h2]at hn
     exact hC i hn hc.2 hi j h
    ·rename_i h2
     rw[if_neg h2]at hn
     split at h
     ·rename_i h3
      rw[if_pos (.inl h3)]at hn
      exact hA i hn hc.2 hi j h
     ·rename_i h3
      rw[if_neg (by omega)]at hn
      split at h
      ·rename_i h4
       rw[if_pos h4,Bool.or_eq_false_iff,decide_eq_false_iff_not]at hn
       refine repO_pos (L:=t.length) ?_ (by omega) _ i hi j h
       intro i hi j hj
       exact⟨hH i hn.2 hc.2 hi j hj,(outsH_in t kids i hi j hj).2⟩
      ·rename_i h4
       rw[if_neg h4]at hn
       split at h
       ·rename_i h5
        rw[if_pos (.inl h5)]at hn
        exact hH i hn hc.2 hi j h
       ·rename_i h5
        rw[if_neg (by omega)]at hn
        cases hn
theorem outsC_pos (t:List Int):∀(l:List Re) (i:Nat),nullAll l=false→codableL l=true→i≤t.length→∀ j∈outsC t l i,i < j
 | [],i,hn,_,hi,j,h=>by simp[nullAll]at hn
 | k::ks,i,hn,hc,hi,j,h=>by
   rw[codableL,Bool.and_eq_true]at hc
   rw[nullAll,Bool.and_eq_false_iff]at hn
   rw[outsC]at h
   obtain⟨m,hm,h⟩:=List.mem_flatMap.1 h
   have h1:=zD2 t k i hi m hm
   have h2:=zHg t ks m h1.2 j h
   rcases hn with hn|hn
   ·have:=zFn t k i hn hc.1 hi m hm
    omega
   ·have:=outsC_pos t ks m hn hc.2 h1.2 j h
    omega
theorem outsA_pos (t:List Int):∀(l:List Re) (i:Nat),nullAny l=false→codableL l=true→i≤t.length→∀ j∈outsA t l i,i < j
 | [],i,hn,_,hi,j,h=>by simp[outsA]at h
 | k::ks,i,hn,hc,hi,j,h=>by
   rw[codableL,Bool.and_eq_true]at hc
   rw[nullAny,Bool.or_eq_false_iff]at hn
   rw[outsA]at h
   rcases List.mem_append.1 h with h|h
   ·exact zFn t k i hn.1 hc.1 hi j h
   ·exact outsA_pos t ks i hn.2 hc.2 hi j h
theorem outsH_pos (t:List Int):∀(l:List Re) (i:Nat),nullHd l=false→codableL l=true→i≤t.length→∀ j∈outsH t l i,i < j
 | [],i,hn,_,hi,j,h=>by simp[outsH]at h
 | k::ks,i,hn,hc,hi,j,h=>by
   rw[codableL,Bool.and_eq_true]at hc
   rw[nullHd]at hn
   rw[outsH]at h
   exact zFn t k i hn hc.1 hi j h
end
def RLe (R R':RunT):Prop:=∀ g i c s x,R g i c s=some x→R' g i c s=some x
theorem zHh {a a':Option (Bool×SS)} {f f':SS→Option (Bool×SS)} {x} (h1:∀ y,a=some y→a' = some y) (h2:∀ s y,f s=some y→f' s=some y) (h:orR a f=some x):orR a' f' = some x:=by
 unfold orR at h ⊢
 cases ha:a with
 | none=>rw[ha]at h;cases h
 | some q=>
   rw[ha]at h
   rw[h1 _ ha]
   obtain⟨b,s⟩:=q
   cases b with
   | true=>exact h
   | false=>exact h2 _ _ h
theorem repR_mono {fuel:Int} {R R':RunT} (h:RLe R R') {re:Re} {k:Int} {next:Goal} {i:Int} {c:Caps} {s:SS} {x} (he:repR fuel R re k next i c s=some x):repR fuel R' re k next i c s=some x:=by
 unfold repR at he ⊢
 simp only at he ⊢
 by_cases h1:(stepSz fuel s).empty=true
 ·rw[if_pos h1]at he ⊢;exact he
 ·rw[if_neg h1]at he ⊢
  cases hk:re.kids with
  | nil=>rw[hk]at he;cases he
  | cons kid ks=>
    rw[hk]at he
    simp only at he ⊢
    by_cases h2:k < re.mn
    ·rw[if_pos h2]at he ⊢;exact h _ _ _ _ _ he
    ·rw[if_neg h2]at he ⊢
     by_cases h3:re.md=1
     ·rw[if_pos h3]at he ⊢
      refine zHh (fun y e=>h _ _ _ _ _ e) (fun s2 y e=>?_) he
      split at e<;>split
      ·exact h _ _ _ _ _ e
      ·contradiction
      ·contradiction
      ·exact e
     ·rw[if_neg h3]at he ⊢
      refine zHh (fun y e=>?_) (fun s2 y e=>h _ _ _ _ _ e) he
      split at e<;>split
      ·exact h _ _ _ _ _ e
      ·contradiction
      ·contradiction
      ·exact e
theorem zGf {R R':RunT} (h:RLe R R') {next:Goal} {i:Int} {c:Caps}:∀ {l:List Re} {s:SS} {x},altR R next i c l s=some x→altR R' next i c l s=some x
 | [],s,x,he=>he
 | k::ks,s,x,he=>by
   simp only[altR]at he ⊢
   exact zHh (fun y e=>h _ _ _ _ _ e) (fun s2 y e=>zGf h e) he
theorem nodeR_mono {t:List Int} {fuel:Int} {R R':RunT} (h:RLe R R') {re:Re} {next:Goal} {i:Int} {c:Caps} {s:SS} {x} (he:nodeR t fuel R re next i c s=some x):nodeR t fuel R' re next i c s=some x:=by
 unfold nodeR at he ⊢
 by_cases h4:re.op=4
 ·rw[if_pos h4]at he ⊢;exact repR_mono h he
 ·rw[if_neg h4]at he ⊢
  simp only at he ⊢
  by_cases h1:(stepSz fuel s).empty=true
  ·rw[if_pos h1]at he ⊢;exact he
  ·rw[if_neg h1]at he ⊢
   by_cases a1:re.op=1
   ·rw[if_pos a1]at he ⊢
    cases hx:t[i.toNat]? with
    | none=>rw[hx]at he;exact he
    | some y=>
      rw[hx]at he
      simp only at he ⊢
      by_cases hh:hasSpan re.set y=true
      ·rw[if_pos hh]at he ⊢;exact h _ _ _ _ _ he
      ·rw[if_neg hh]at he ⊢;exact he
   ·rw[if_neg a1]at he ⊢
    by_cases a2:re.op=2
    ·rw[if_pos a2]at he ⊢;exact h _ _ _ _ _ he
    ·rw[if_neg a2]at he ⊢
     by_cases a3:re.op=3
     ·rw[if_pos a3]at he ⊢;exact zGf h he
     ·rw[if_neg a3]at he ⊢
      by_cases a5:re.op=5
      ·rw[if_pos a5]at he ⊢
       cases hk:re.kids with
       | nil=>rw[hk]at he;cases he
       | cons kid ks=>rw[hk]at he;exact h _ _ _ _ _ he
      ·rw[if_neg a5]at he ⊢
       by_cases a11:re.op=11
       ·rw[if_pos a11]at he ⊢
        by_cases hh:assertI re.n (befS t i.toNat) t[i.toNat]?=true
        ·rw[if_pos hh]at he ⊢;exact h _ _ _ _ _ he
        ·rw[if_neg hh]at he ⊢;exact he
       ·rw[if_neg a11]at he ⊢;exact h _ _ _ _ _ he
theorem runG_step (t:List Int) (fuel:Int):∀ d,RLe (runG t fuel d) (runG t fuel (d+1))
 | 0=>fun g i c s x h=>by cases g<;>simp[runG]at h
 | d+1=>fun g i c s x h=>by
   have ih:=runG_step t fuel d
   cases g with
   | nil=>simpa [runG] using h
   | mk kind re k fr next=>
     rw[runG]at h ⊢
     by_cases k1:kind=1
     ·rw[if_pos k1]at h ⊢;exact repR_mono ih h
     ·rw[if_neg k1]at h ⊢
      by_cases k2:kind=2
      ·rw[if_pos k2]at h ⊢
       by_cases hc:re.mn≤k∧i=fr
       ·rw[if_pos hc]at h ⊢;exact h
       ·rw[if_neg hc]at h ⊢;exact ih _ _ _ _ _ h
      ·rw[if_neg k2]at h ⊢
       by_cases k3:kind=3
       ·rw[if_pos k3]at h ⊢;exact ih _ _ _ _ _ h
       ·rw[if_neg k3]at h ⊢;exact nodeR_mono ih h
theorem zHc (t:List Int) (fuel:Int) {d d':Nat} (h:d≤d'):RLe (runG t fuel d) (runG t fuel d'):=by
 induction h with
 | refl=>exact fun _ _ _ _ _ h=>h
 | step h ih=>exact fun g i c s x e=>runG_step t fuel _ g i c s x (ih g i c s x e)
variable (caps top:Int) (t:List Int) (fuel:Int)
def RT (g:Goal) (i n:Nat):Prop:=∀(c:Caps) (s:SS),GG caps top t.length s.steps g→c.length≤1000→SPre fuel s →
 ∃ d b s',runG t fuel d g i c s=some (b,s')∧SPost fuel s b s'∧(b=false→s'.steps=s.steps+n)
variable {caps top:Int} {t:List Int} {fuel:Int}
theorem RT.of {g:Goal} {i n:Nat} (hi:i≤t.length) (h:∀(c:Caps) (s:SS),GG caps top t.length s.steps g→c.length≤1000→SPre fuel s→∃ d b s',runG t fuel d g i c s=some (b,s')∧(b=false→s'.steps=s.steps+n)):RT caps top t fuel g i n:=
 fun c s hg hc hs=>by
  obtain⟨d,b,s',h1,h2⟩:=h c s hg hc hs
  exact⟨d,b,s',h1,zF2 caps top t fuel d g i c s b s' hg (by omega) (by omega) hc hs h1,h2⟩
theorem RT.nil {i:Nat} (hi:i≤t.length):RT caps top t fuel .nil i 0:=RT.of hi fun c s _ _ hs=>⟨1,false,_,rfl,fun _=>by simp⟩
theorem zFq {α:Type} (l:List α) (f:α→List Nat) (κ:Nat→Nat):((l.flatMap f).map κ).sum=(l.map fun j=>((f j).map κ).sum).sum:=by
 induction l with
 | nil=>rfl
 | cons a l ih=>simp[ih]
theorem sum_add {α:Type} (l:List α) (f g:α→Nat):(l.map fun j=>f j+g j).sum=(l.map f).sum+(l.map g).sum:=by
 induction l with
 | nil=>rfl
 | cons a l ih=>simp[ih];omega
variable {caps top:Int} {t:List Int} {fuel:Int}
theorem seq_run {g1 g2:Goal} {i n1 n2:Nat} (hi:i≤t.length) (h1:RT caps top t fuel g1 i n1) (h2:RT caps top t fuel g2 i n2) {c:Caps} {s:SS} (hg1:GG caps top t.length s.steps g1) (hg2:GG caps top t.length s.steps g2)
  (hc:c.length≤1000) (hs:SPre fuel s) (hx:(s.ends.length:Int)≤256 * s.steps - 256) :
  ∃ d b s',orR (runG t fuel d g1 i c s) (runG t fuel d g2 i c)=some (b,s')∧(b=false→s'.steps=s.steps+(n1+n2:Nat)):=by
 obtain⟨d1,b1,s1,e1,q1,m1⟩:=h1 c s hg1 hc hs
 cases b1 with
 | true=>exact⟨d1,true,s1,by rw[e1];rfl,fun h=>by cases h⟩
 | false=>
   obtain⟨d2,b2,s2,e2,q2,m2⟩:=h2 c s1 (hg2.mono q1.st) hc (q1.pre hs hx)
   refine⟨max d1 d2,b2,s2,?_,fun h=>?_⟩
   ·rw[zHc t fuel (Nat.le_max_left d1 d2) _ _ _ _ _ e1]
    exact zHc t fuel (Nat.le_max_right d1 d2) _ _ _ _ _ e2
   ·have a:=m1 rfl
    have b:=m2 h
    omega
def RTRep (caps top:Int) (t:List Int) (fuel:Int) (re:Re) (k:Int) (next:Goal) (i m:Nat):Prop:=
 ∀(c:Caps) (s:SS),0≤k∧k≤s.steps→GG caps top t.length s.steps next→c.length≤1000→SPre fuel s →
  ∃ d b s',repR fuel (runG t fuel d) re k next i c s=some (b,s')∧(b=false→s'.steps=s.steps+m)
theorem repR_run {re kid:Re} (h:RGood caps top re) (ho:re.op=4) (hkid:re.kids=[kid]) (hgk:RGood caps top kid) {next:Goal} {κ:Nat→Nat}
  (hpos:∀ i,i≤t.length→∀ j∈outs t kid i,i < j∧j≤t.length)
  (hK:∀(nx:Goal) (i:Nat) (κ':Nat→Nat),i≤t.length→(∀ j∈outs t kid i,RT caps top t fuel nx j (κ' j))→RT caps top t fuel (.mk 0 kid 0 0 nx) i (costR t kid i+((outs t kid i).map κ').sum)) :
  ∀(n:Nat) (k:Int) (i:Nat),i≤t.length→t.length+1 - i≤n→(∀ j∈repO (outs t kid) re.mn re.mx re.md n k i,RT caps top t fuel next j (κ j)) →
   RTRep caps top t fuel re k next i (repC (outs t kid) (costR t kid) re.mn re.mx n k i+((repO (outs t kid) re.mn re.mx re.md n k i).map κ).sum)
 | 0,k,i,hi,hn,_=>by omega
 | n+1,k,i,hi,hn,hx=>by
   intro c s hk hg hc hs
   by_cases he:(stepSz fuel s).empty=true
   ·exact⟨0,true,stepSz fuel s,by unfold repR;simp only;rw[if_pos he],fun h=>by cases h⟩
   obtain⟨p1,p2⟩:=zCy hs (by simpa using he)
   have hst:(stepSz fuel s).steps=s.steps+1:=rfl
   have hg1:=hg.mono (show s.steps≤(stepSz fuel s).steps by omega)
   have hon:=zF8 (next:=next) (i:=i) (L:=t.length) (steps:=(stepSz fuel s).steps) h hgk ho (k:=k) ⟨hk.1,by omega⟩ ⟨by omega,by omega⟩ hg1
   have once:(∀ j∈(outs t kid i).flatMap (repO (outs t kid) re.mn re.mx re.md n (k+1)),RT caps top t fuel next j (κ j)) →
     RT caps top t fuel (.mk 0 kid 0 0 (.mk 2 re k i next)) i (costR t kid i+((outs t kid i).map (repC (outs t kid) (costR t kid) re.mn re.mx n (k+1))).sum+(((outs t kid i).flatMap (repO (outs t kid) re.mn re.mx re.md n (k+1))).map κ).sum):=by
    intro hf
    rw[zFq,Nat.add_assoc,← sum_add]
    refine hK _ i _ hi fun j hj=>?_
    have hij:=hpos i hi j hj
    refine RT.of hij.2 fun c s hg hc hs=>?_
    obtain⟨g1,g2,g3,g4⟩:=hg
    obtain⟨d,b,s',e,m⟩:=repR_run h ho hkid hgk hpos hK n (k+1) j hij.2 (by omega) (fun q hq=>hf q (List.mem_flatMap.2 ⟨j,hj,hq⟩)) c s (by omega) g4 hc hs
    refine⟨d+2,b,s',?_,m⟩
    rw[runG,if_neg (by decide),if_pos rfl,if_neg (by omega),runG,if_pos rfl]
    exact e
   rw[repO]at hx ⊢
   rw[repC]
   by_cases hm:k < re.mn
   ·rw[if_pos hm]at hx ⊢
    rw[if_pos (.inl hm)]
    obtain⟨d,b,s',e,q,m⟩:=once hx c _ hon hc p1
    refine⟨d,b,s',?_,fun hb=>?_⟩
    ·unfold repR;simp only;rw[if_neg he,hkid];simp only;rw[if_pos hm];exact e
    ·have:=m hb;omega
   ·rw[if_neg hm]at hx ⊢
    by_cases hM:re.mx = -1∨k < re.mx
    ·have hmore:(decide (re.mx = -1) || decide (k < re.mx))=true:=by simpa using hM
     rw[if_pos (.inr hM)]
     simp only[if_pos hM]at hx ⊢
     by_cases hd:re.md=1
     ·rw[if_pos hd]at hx ⊢
      obtain⟨d,b,s',e,m⟩:=seq_run hi (hx i (by simp)) (once fun j hj=>hx j (List.mem_cons_of_mem _ hj)) hg1 hon hc p1 (by omega)
      refine⟨d,b,s',?_,fun hb=>?_⟩
      ·unfold repR;simp only;rw[if_neg he,hkid];simp only;rw[if_neg hm,if_pos hd];simp only[hmore,if_true];exact e
      ·have:=m hb
       simp only[List.map_cons,List.sum_cons]
       omega
     ·rw[if_neg hd]at hx ⊢
      obtain⟨d,b,s',e,m⟩:=seq_run hi (once fun j hj=>hx j (List.mem_append_left _ hj)) (hx i (by simp)) hon hg1 hc p1 (by omega)
      refine⟨d,b,s',?_,fun hb=>?_⟩
      ·unfold repR;simp only;rw[if_neg he,hkid];simp only;rw[if_neg hm,if_neg hd];simp only[hmore,if_true];exact e
      ·have:=m hb
       simp only[List.map_append,List.sum_append,List.map_cons,List.map_nil,List.sum_cons,List.sum_nil]
       omega
    ·have hmore:(decide (re.mx = -1) || decide (k < re.mx))=false:=by
      simp only[Bool.or_eq_false_iff,decide_eq_false_iff_not];omega
     rw[if_neg (by omega)]
     simp only[if_neg hM]at hx ⊢
     have hO:(if re.md=1 then [i] else []++[i])=[i]:=by split<;>rfl
     rw[hO]at hx ⊢
     obtain⟨d,b,s',e,q,m⟩:=hx i (by simp) c _ hg1 hc p1
     refine⟨d,b,s',?_,fun hb=>?_⟩
     ·unfold repR;simp only;rw[if_neg he,hkid];simp only;rw[if_neg hm];simp only[hmore]
      split
      ·rw[e];cases b with
       | true=>rfl
       | false=>rfl
      ·exact e
     ·have:=m hb
      simp only[List.map_cons,List.map_nil,List.sum_cons,List.sum_nil]
      omega
mutual
def lpG:Re→Bool
 | .mk op set kids mn mx md n neg=>!(decide (op=4) && nullHd kids) && lpL kids
def lpL:List Re→Bool
 | []=>true
 | k::ks=>lpG k && lpL ks
end
mutual
theorem re_run (caps top:Int) (t:List Int) (fuel:Int):∀ r:Re,RGood caps top r→lpG r=true→∀(k fr:Int) (next:Goal) (i:Nat) (κ:Nat→Nat),i≤t.length →
  (∀ j∈outs t r i,RT caps top t fuel next j (κ j))→RT caps top t fuel (.mk 0 r k fr next) i (costR t r i+((outs t r i).map κ).sum)
 | .mk op set kids mn mx md n neg,hr,hcp,k,fr,next,i,κ,hi,hx=>by
   have hkids:∀ k∈kids,RGood caps top k:=hr.kids
   have hC:=fun h next κ=>cat_run caps top t fuel kids hkids h next i κ hi
   have hA:=fun h next κ=>alt_run caps top t fuel kids hkids h next i κ hi
   have hH:=fun h next i κ hi=>hd_run caps top t fuel kids hkids h next i κ hi
   have hop:=hr.good.op
   have hlen:=hr.len
   rw[lpG,Bool.and_eq_true]at hcp
   obtain⟨hcp0,hcp⟩:=hcp
   refine RT.of hi fun c s hg hc hs=>?_
   obtain⟨g1,g2,g3,g4⟩:=hg
   by_cases h4:op=4
   ·subst h4
    have hnl:nullHd kids=false:=by simpa using hcp0
    obtain⟨kid,hkid,hgk⟩:=rep_kid hr rfl
    simp only[Re.kids]at hkid
    subst hkid
    have ho:∀ i,outs t (.mk 4 set [kid] mn mx md n neg) i=repO (outs t kid) mn mx md (t.length+1 - i) 0 i:=fun i=>by
     rw[outs,if_neg (by decide),if_neg (by decide),if_neg (by decide),if_pos rfl]
     congr 1
    have hcst:∀ i,costR t (.mk 4 set [kid] mn mx md n neg) i=repC (outs t kid) (costR t kid) mn mx (t.length+1 - i) 0 i:=fun i=>by
     rw[costR,if_neg (by decide),if_neg (by decide),if_pos rfl]
     congr 1
    rw[ho]at hx
    rw[ho,hcst]
    rw[lpL,Bool.and_eq_true]at hcp
    obtain⟨d,b,s',e,m⟩:=repR_run (κ:=κ) hr rfl rfl hgk (fun i hi j hj=>⟨zFn t kid i (by rw[nullHd]at hnl;exact hnl) hgk.good.cod hi j hj,(zD2 t kid i hi j hj).2⟩)
     (fun nx i κ' hi h=>hH (by rw[lpL,lpL,hcp.1];rfl) nx i κ' hi h) (t.length+1 - i) 0 i hi (Nat.le_refl _) hx c s ⟨Int.le_refl _,hs.st.1⟩ g4 hc hs
    refine⟨d+1,b,s',?_,m⟩
    rw[runG,if_neg (by decide),if_neg (by decide),if_neg (by decide),nodeR,if_pos (by rfl)]
    exact e
   ·by_cases he:(stepSz fuel s).empty=true
    ·refine⟨1,true,stepSz fuel s,?_,fun h=>by cases h⟩
     rw[runG,if_neg (by decide),if_neg (by decide),if_neg (by decide),nodeR,if_neg (by exact h4)]
     simp only
     rw[if_pos he]
    ·obtain⟨p1,p2⟩:=zCy hs (by simpa using he)
     have hst:(stepSz fuel s).steps=s.steps+1:=rfl
     have hg1:=g4.mono (show s.steps≤(stepSz fuel s).steps by omega)
     rcases hop with rfl|rfl|rfl|rfl|rfl|rfl|rfl
     ·have ho:outs t (.mk 0 set kids mn mx md n neg) i=[i]:=by rw[outs];simp
      have hcst:costR t (.mk 0 set kids mn mx md n neg) i=1:=by rw[costR];simp
      rw[ho]at hx;rw[ho,hcst]
      obtain⟨d,b,s',e,q,m⟩:=hx i (by simp) c _ hg1 hc p1
      refine⟨d+1,b,s',?_,fun hb=>by have:=m hb;simp only[List.map_cons,List.map_nil,List.sum_cons,List.sum_nil];omega⟩
      simp[runG,nodeR,Re.op,he,e]
     ·have hcst:costR t (.mk 1 set kids mn mx md n neg) i=1:=by rw[costR];simp
      rw[outs,if_pos rfl]at hx ⊢
      rw[hcst]
      cases hti:t[i]? with
      | none=>
        refine⟨1,false,stepSz fuel s,?_,fun _=>by simp;omega⟩
        simp[runG,nodeR,Re.op,he,hti]
      | some x=>
        rw[hti]at hx
        by_cases hh:hasSpan set x=true
        ·simp only[if_pos hh]at hx ⊢
         obtain⟨d,b,s',e,q,m⟩:=hx (i+1) (by simp) c _ hg1 hc p1
         refine⟨d+1,b,s',?_,fun hb=>by have:=m hb;simp only[List.map_cons,List.map_nil,List.sum_cons,List.sum_nil];omega⟩
         simp only[Int.natCast_add,Int.natCast_one]at e
         simp[runG,nodeR,Re.op,Re.set,he,hti,hh,e]
        ·simp only[if_neg hh]at hx ⊢
         refine⟨1,false,stepSz fuel s,?_,fun _=>by simp;omega⟩
         simp[runG,nodeR,Re.op,Re.set,he,hti,hh]
     ·have ho:outs t (.mk 2 set kids mn mx md n neg) i=outsC t kids i:=by rw[outs];simp
      have hcst:costR t (.mk 2 set kids mn mx md n neg) i=1+costRC t kids i:=by rw[costR];simp
      rw[ho]at hx;rw[ho,hcst]
      obtain⟨d,b,s',e,q,m⟩:=hC hcp next κ hx c _ (GG.cat (by omega) hg1 hkids) hc p1
      refine⟨d+1,b,s',?_,fun hb=>by have:=m hb;omega⟩
      simp[runG,nodeR,Re.op,Re.kids,he,e]
     ·have ho:outs t (.mk 3 set kids mn mx md n neg) i=outsA t kids i:=by rw[outs];simp
      have hcst:costR t (.mk 3 set kids mn mx md n neg) i=1+costRA t kids i:=by rw[costR];simp
      rw[ho]at hx;rw[ho,hcst]
      simp only[Re.kids]at hlen
      obtain⟨d,b,s',e,m⟩:=hA hcp next κ hx c _ hg1 hc p1 (by omega)
      refine⟨d+1,b,s',?_,fun hb=>by have:=m hb;omega⟩
      simp[runG,nodeR,Re.op,Re.kids,he,e]
     ·exact absurd rfl h4
     ·have ho:outs t (.mk 5 set kids mn mx md n neg) i=outsH t kids i:=by rw[outs];simp
      have hcst:costR t (.mk 5 set kids mn mx md n neg) i=1+costRH t kids i:=by rw[costR];simp
      rw[ho]at hx;rw[ho,hcst]
      obtain⟨kid,hkid,hgk⟩:=cap_kid hr rfl
      simp only[Re.kids]at hkid
      subst hkid
      have e1:outsH t [kid] i=outs t kid i:=by rw[outsH]
      have e2:costRH t [kid] i=costR t kid i:=by rw[costRH]
      rw[e1]at hx
      rw[e1,e2]
      obtain⟨d,b,s',e,q,m⟩:=hH hcp (.mk 3 (.mk 5 set [kid] mn mx md n neg) 0 i next) i κ hi (fun j hj=>by
       have hj2:=(zD2 t kid i hi j hj).2
       refine RT.of hj2 fun c s hg hc hs=>?_
       obtain⟨g1,g2,g3,g4⟩:=hg
       obtain⟨d,b,s',e,q,m⟩:=hx j hj (withI c n i j) s g4 (by rw[zHQ];exact hc) hs
       refine⟨d+1,b,s',?_,m⟩
       rw[runG,if_neg (by decide),if_neg (by decide),if_pos rfl]
       exact e) c _ ⟨hgk,.inl rfl,⟨Int.le_refl _,by omega⟩,hr,.inr (.inr (.inr ⟨rfl,rfl⟩)),⟨by omega,by omega⟩,hg1⟩ hc p1
      refine⟨d+1,b,s',?_,fun hb=>by have:=m hb;omega⟩
      rw[runG,if_neg (by decide),if_neg (by decide),if_neg (by decide),nodeR,if_neg (by exact h4)]
      simp only
      rw[if_neg he]
      simp only[Re.op,Re.kids,show ¬(5:Int)=1 by decide,show ¬(5:Int)=2 by decide,show ¬(5:Int)=3 by decide,if_false,if_true]
      exact e
     ·have hcst:costR t (.mk 11 set kids mn mx md n neg) i=1:=by rw[costR];simp
      have ho:outs t (.mk 11 set kids mn mx md n neg) i=if assertI n (befS t i) t[i]?=true then [i] else []:=by rw[outs];simp
      rw[ho]at hx;rw[ho,hcst]
      by_cases hh:assertI n (befS t i) t[i]?=true
      ·simp only[if_pos hh]at hx ⊢
       obtain⟨d,b,s',e,q,m⟩:=hx i (by simp) c _ hg1 hc p1
       refine⟨d+1,b,s',?_,fun hb=>by have:=m hb;simp only[List.map_cons,List.map_nil,List.sum_cons,List.sum_nil];omega⟩
       simp[runG,nodeR,Re.op,Re.n,he,hh,e]
      ·simp only[if_neg hh]at hx ⊢
       refine⟨1,false,stepSz fuel s,?_,fun _=>by simp;omega⟩
       simp[runG,nodeR,Re.op,Re.n,he,hh]
theorem cat_run (caps top:Int) (t:List Int) (fuel:Int):∀ l:List Re,(∀ k∈l,RGood caps top k)→lpL l=true→∀(next:Goal) (i:Nat) (κ:Nat→Nat),i≤t.length →
  (∀ j∈outsC t l i,RT caps top t fuel next j (κ j))→RT caps top t fuel (catG next l) i (costRC t l i+((outsC t l i).map κ).sum)
 | [],_,_,next,i,κ,hi,hx=>by
   have:=hx i (by simp[outsC])
   simpa [outsC,costRC,catG] using this
 | k::ks,hr,hcp,next,i,κ,hi,hx=>by
   rw[lpL,Bool.and_eq_true]at hcp
   rw[outsC]at hx ⊢
   rw[costRC,zFq,Nat.add_assoc,← sum_add,catG]
   refine re_run caps top t fuel k (hr k (by simp)) hcp.1 0 0 _ i _ hi fun j hj=>?_
   exact cat_run caps top t fuel ks (fun q hq=>hr q (by simp[hq])) hcp.2 next j κ (zD2 t k i hi j hj).2 fun q hq=>hx q (List.mem_flatMap.2 ⟨j,hj,hq⟩)
theorem alt_run (caps top:Int) (t:List Int) (fuel:Int):∀ l:List Re,(∀ k∈l,RGood caps top k)→lpL l=true→∀(next:Goal) (i:Nat) (κ:Nat→Nat),i≤t.length →
  (∀ j∈outsA t l i,RT caps top t fuel next j (κ j))→∀(c:Caps) (s:SS),GG caps top t.length s.steps next→c.length≤1000→SPre fuel s→(s.ends.length:Int)+l.length≤256 * s.steps →
  ∃ d b s',altR (runG t fuel d) next i c l s=some (b,s')∧(b=false→s'.steps=s.steps+(costRA t l i+((outsA t l i).map κ).sum:Nat))
 | [],_,_,next,i,κ,hi,hx=>fun c s hg hc hs hsl=>⟨0,false,s,rfl,fun _=>by simp[costRA,outsA]⟩
 | k::ks,hr,hcp,next,i,κ,hi,hx=>fun c s hg hc hs hsl=>by
   rw[lpL,Bool.and_eq_true]at hcp
   rw[outsA]at hx ⊢
   rw[costRA]
   obtain⟨d1,b1,s1,e1,q1,m1⟩:=re_run caps top t fuel k (hr k (by simp)) hcp.1 0 0 next i κ hi (fun j hj=>hx j (List.mem_append_left _ hj)) c s ⟨hr k (by simp),.inl rfl,⟨Int.le_refl _,by omega⟩,hg⟩ hc hs
   cases b1 with
   | true=>exact⟨d1,true,s1,by rw[altR,e1];rfl,fun h=>by cases h⟩
   | false=>
     have a1:=q1.st
     have a2:=q1.fu rfl
     have a3:=q1.el
     have a4:=hs.st
     simp only[List.length_cons]at hsl
     obtain⟨d2,b2,s2,e2,m2⟩:=alt_run caps top t fuel ks (fun q hq=>hr q (by simp[hq])) hcp.2 next i κ hi (fun j hj=>hx j (List.mem_append_right _ hj)) c s1 (hg.mono a1) hc ⟨q1.eb.symm,⟨by omega,a2⟩,q1.cl,by omega⟩ (by omega)
     refine⟨max d1 d2,b2,s2,?_,fun h=>?_⟩
     ·rw[altR,zHc t fuel (Nat.le_max_left d1 d2) _ _ _ _ _ e1]
      exact zGf (zHc t fuel (Nat.le_max_right d1 d2)) e2
     ·have a:=m1 rfl
      have b:=m2 h
      simp only[List.map_append,List.sum_append]
      omega
theorem hd_run (caps top:Int) (t:List Int) (fuel:Int):∀ l:List Re,(∀ k∈l,RGood caps top k)→lpL l=true→∀(next:Goal) (i:Nat) (κ:Nat→Nat),i≤t.length →
  match l with
  | []=>True
  | k::_=>(∀ j∈outs t k i,RT caps top t fuel next j (κ j))→RT caps top t fuel (.mk 0 k 0 0 next) i (costR t k i+((outs t k i).map κ).sum)
 | [],_,_,_,_,_,_=>trivial
 | k::ks,hr,hcp,next,i,κ,hi=>fun hx=>by
   rw[lpL,Bool.and_eq_true]at hcp
   exact re_run caps top t fuel k (hr k (by simp)) hcp.1 0 0 next i κ hi hx
end
end Go.Ev
namespace Go.Ev
attribute [local go_sem] zAm evAppend evBin evBuild AV.cells splice List.length_append List.map_append tySzE List.head?_drop Nat.mul_one zAO zAT zAN zAP zAQ zAZ
section
open Go.Proofs Go.RowKit Go.IntWalk
set_option maxRecDepth 100000
set_option maxHeartbeats 8000000
theorem f103 (b0 b3:MB) (pc tc:List AV) (hp:AV.plainL pc=true) (htc:AV.plainL tc=true) (caps top:Int) (ht:top≤1114111) (hpc:pc[8]?=some (I caps)) (htc2:tc=[I top]):∀(N:Nat) (r:Re),r.wt≤N→r.wt≤1000000 →
  ∀(d s:Nat) (g:Bool),s≤256→d≤1000000 →
  ∃(ok g':Bool) (s':Nat),call Tryz.prog pol1 85 [.pt (reC r),I d,.rf 1 1 0 0,.rf 2 1 0 0,.pt pc,.pt tc,.rf 4 1 0 0]
    [b0,.row 1 [I s] 0,.row 1 [.bool g] 0,b3,.row 1 [.clo 85 [.rf 1 1 0 0,.rf 2 1 0 0,.pt pc,.pt tc,.rf 4 1 0 0]] 0] =
   some (.bool ok,[b0,.row 1 [I s'] 0,.row 1 [.bool g'] 0,b3,.row 1 [.clo 85 [.rf 1 1 0 0,.rf 2 1 0 0,.pt pc,.pt tc,.rf 4 1 0 0]] 0]) ∧
   ok=decide (s+r.size≤256∧d+r.depth≤25)∧(ok=true→s' = s+r.size∧g' = (g && wholeG caps top r))
 | 0,r,h,_,_,_,_,_,_=>by have:=r.wt_pos;omega
 | N+1,.mk op set kids mn mx md n neg,h,hN,d,s,g,hs,hd=>by
   have hkl:=Re.wtL_len kids
   have hwt:1+set.length+Re.wtL kids=(Re.mk op set kids mn mx md n neg).wt:=by simp[Re.wt]
   have ih:=fun k (hk:k∈kids)=>f103 b0 b3 pc tc hp htc caps top ht hpc htc2 N k (by have:=Re.wtL_mem hk;omega) (by have:=Re.wtL_mem hk;omega)
   have f104':=f104z caps top ht op set kids mn mx md n neg (by omega) (by omega)
   rw[show (.pt (reC (.mk op set kids mn mx md n neg)):AV)=.pt (nodeL op set kids mn mx md n neg) from congrArg AV.pt zCm]
   have hsz:(Re.mk op set kids mn mx md n neg).size=1+Re.sizeL kids:=by simp[Re.size]
   have hdz:(Re.mk op set kids mn mx md n neg).depth=1+Re.depthL kids:=by simp[Re.depth]
   have hwh:wholeG caps top (.mk op set kids mn mx md n neg)=(formedG caps top (.mk op set kids mn mx md n neg) && wholeL caps top kids):=by rw[wholeG]
   have fr:∀(s:Int) (g:Bool),frzArgs pol1 85 0 [.pt (nodeL op set kids mn mx md n neg),I d,.rf 1 1 0 0,.rf 2 1 0 0,.pt pc,.pt tc,.rf 4 1 0 0]
     [b0,.row 1 [I s] 0,.row 1 [.bool g] 0,b3,.row 1 [.clo 85 [.rf 1 1 0 0,.rf 2 1 0 0,.pt pc,.pt tc,.rf 4 1 0 0]] 0] =
     some ([.pt (nodeL op set kids mn mx md n neg),I d,.rf 1 1 0 0,.rf 2 1 0 0,.pt pc,.pt tc,.rf 4 1 0 0],[b0,.row 1 [I s] 0,.row 1 [.bool g] 0,b3,.row 1 [.clo 85 [.rf 1 1 0 0,.rf 2 1 0 0,.pt pc,.pt tc,.rf 4 1 0 0]] 0]):=fun s g=>
    zAR _ _ _ (by simp[mixOk,show pol1.byref 85 2=true from rfl,show pol1.byref 85 3=true from rfl,show pol1.byref 85 4=true from rfl,show pol1.byref 85 5=true from rfl,show pol1.byref 85 6=true from rfl,AV.plain,AV.plainL,zAG,zAL])
   have rt:∀(x:Bool) (s s':Int) (g g':Bool),retPol pol1 85 [b0,.row 1 [I s] 0,.row 1 [.bool g] 0,b3,.row 1 [.clo 85 [.rf 1 1 0 0,.rf 2 1 0 0,.pt pc,.pt tc,.rf 4 1 0 0]] 0] (.bool x) [b0,.row 1 [I s'] 0,.row 1 [.bool g'] 0,b3,.row 1 [.clo 85 [.rf 1 1 0 0,.rf 2 1 0 0,.pt pc,.pt tc,.rf 4 1 0 0]] 0] =
     some (.bool x,[b0,.row 1 [I s'] 0,.row 1 [.bool g'] 0,b3,.row 1 [.clo 85 [.rf 1 1 0 0,.rf 2 1 0 0,.pt pc,.pt tc,.rf 4 1 0 0]] 0]):=fun x s s' g g'=>
    zA1 rfl rfl rfl (by simp[keptOk,MB.beq_refl,MB.under,AV.underL,AV.under]) rfl
   have hs1:((s:Int)+1)=((s+1:Nat):Int):=rfl
   subst htc2
   by_cases hc:256 < s+1∨24 < d
   ·refine⟨false,g,s+1,?_,?_,fun h=>by cases h⟩
    ·refine zAV (pol:=pol1) Tryz.func85 rfl rfl rfl rfl (fr s g) ?_
     have hc':256 < s+1∨(¬ 256 < s+1∧24 < d):=by omega
     rcases hc' with h1|⟨h1,h2⟩
     all_goals (
      simp +contextual (disch:=omega) only[Tryz.f85,dd85,go_sem,simprocAttr,mu85,↓zAD,↓zAC,↓zAB,↓zAA,hs1,rt]
      repeat' (first|intro _|apply And.intro|(unfold dOk;kernel_rfl)|exact St.beq_refl _|(show altO _ _ _ _=true;kernel_rfl)|(show (_ || _)=true;kernel_rfl)|(show (_ && _)=true;kernel_rfl)))
    ·rw[hsz,hdz]
     symm;rw[decide_eq_false_iff_not]
     omega
   ·have key:∃ r:AV×List MB,(∃(ok g':Bool) (s':Nat),r=(.bool ok,[b0,.row 1 [I s'] 0,.row 1 [.bool g'] 0,b3,.row 1 [.clo 85 [.rf 1 1 0 0,.rf 2 1 0 0,.pt pc,.pt [I top],.rf 4 1 0 0]] 0]) ∧
      ok=decide (s+(Re.mk op set kids mn mx md n neg).size≤256∧d+(Re.mk op set kids mn mx md n neg).depth≤25)∧(ok=true→s' = s+(Re.mk op set kids mn mx md n neg).size∧g' = (g && wholeG caps top (.mk op set kids mn mx md n neg)))) ∧
      call Tryz.prog pol1 85 [.pt (nodeL op set kids mn mx md n neg),I d,.rf 1 1 0 0,.rf 2 1 0 0,.pt pc,.pt [I top],.rf 4 1 0 0]
       [b0,.row 1 [I s] 0,.row 1 [.bool g] 0,b3,.row 1 [.clo 85 [.rf 1 1 0 0,.rf 2 1 0 0,.pt pc,.pt [I top],.rf 4 1 0 0]] 0]=some r:=by
     rw[hsz,hdz,hwh]
     refine call_run2E (pol:=pol1) Tryz.func85 rfl rfl rfl rfl (fr s g) ?_
     generalize formedG caps top (.mk op set kids mn mx md n neg)=fg at *
     clear hwh hsz hdz
     have hd0:d≤24:=by omega
     have hs0:s+1≤256:=by omega
     cases g
     ·simp +contextual (disch:=omega) only[Tryz.f85,dd85,go_sem,simprocAttr,mu85,↓zAD,↓zAC,↓zAB,↓zAA,hs1]
      refine zAe (M:=(mskOf (pol1.mask 85) (pol1.gc 85) (pol1.acts 85) 0 6)) rfl kids.length (fun i=>(⟨47,[(32,I i),(31,I kids.length),(6,.rf 4 1 0 0),(1,I d),(0,.pt (nodeL op set kids mn mx md n neg))],[b0,.row 1 [I ((s+1+Re.sizeL (kids.take i):Nat):Int)] 0,.row 1 [.bool (false && wholeL caps top (kids.take i))] 0,b3,.row 1 [.clo 85 [.rf 1 1 0 0,.rf 2 1 0 0,.pt pc,.pt [I top],.rf 4 1 0 0]] 0]⟩:St))
       (fun i=>s+1+Re.sizeL (kids.take i)≤256∧d+1+Re.depthL (kids.take i)≤25) ?_ ?_ ⟨by simp[Re.sizeL];omega,by simp[Re.depthL];omega⟩ _ ?_
      ·rintro i hi ⟨hb1,hb2⟩
       obtain⟨k,hk⟩:∃ k,kids[i]?=some k:=⟨_,List.getElem?_eq_getElem hi⟩
       obtain⟨ok,g2,s2,hcall,hok,himp⟩:=ih k (List.mem_of_getElem? hk) (d+1) (s+1+Re.sizeL (kids.take i)) (false && wholeL caps top (kids.take i)) (by omega) (by omega)
       have e1:=Re.sizeL_take hk
       have e2:=Re.depthL_take hk
       have e3:=zEc (caps:=caps) (top:=top) hk
       have e4:=Re.sizeL_le (l:=kids) (i:=i+1)
       have e5:=Re.depthL_le (l:=kids) (i:=i+1)
       have hl8:=zAM k
       have ht8:=zAU k
       have hd1:((d:Int)+1)=((d+1:Nat):Int):=rfl
       cases ok with
       | false=>
         have hcf:=of_decide_eq_false hok.symm
         simp +contextual (disch:=omega) only[Tryz.f85,dd85,go_sem,simprocAttr,mu85,↓zAD,↓zAC,↓zAB,↓zAA,hk,hl8,ht8,hd1,hcall]
         repeat' (first|intro _|apply And.intro|(unfold dOk;kernel_rfl)|exact St.beq_refl _|(show altO _ _ _ _=true;kernel_rfl)|(show (_ || _)=true;kernel_rfl)|(show (_ && _)=true;kernel_rfl))
         refine⟨_,⟨false,g2,s2,rfl,?_,fun h=>by cases h⟩,rt false _ _ _ _⟩
         symm;rw[decide_eq_false_iff_not];omega
       | true=>
         have hct:=of_decide_eq_true hok.symm
         obtain⟨rfl,rfl⟩:=himp rfl
         rw[e1,e2,e3,← Bool.and_assoc]
         simp +contextual (disch:=omega) only[Tryz.f85,dd85,go_sem,simprocAttr,mu85,↓zAD,↓zAC,↓zAB,↓zAA,hk,hl8,ht8,hd1,hcall]
         repeat' (first|intro _|apply And.intro|(unfold dOk;kernel_rfl)|exact St.beq_refl _|(show altO _ _ _ _=true;kernel_rfl)|(show (_ || _)=true;kernel_rfl)|(show (_ && _)=true;kernel_rfl))
         rw[Nat.add_assoc (s+1)]
         rfl
      ·rintro⟨hb1,hb2⟩
       rw[List.take_length]at hb1 hb2 ⊢
       simp +contextual (disch:=omega) only[Tryz.f85,dd85,go_sem,simprocAttr,mu85,↓zAD,↓zAC,↓zAB,↓zAA]
       refine⟨_,⟨true,(false && wholeL caps top kids),s+1+Re.sizeL kids,rfl,?_,fun _=>⟨by omega,by simp⟩⟩,rt true _ _ _ _⟩
       rfl
      ·rfl
     ·simp +contextual (disch:=omega) only[Tryz.f85,dd85,go_sem,simprocAttr,mu85,↓zAD,↓zAC,↓zAB,↓zAA,hs1,f104',hpc]
      refine zAe (M:=(mskOf (pol1.mask 85) (pol1.gc 85) (pol1.acts 85) 0 6)) rfl kids.length (fun i=>(⟨47,[(32,I i),(31,I kids.length),(6,.rf 4 1 0 0),(1,I d),(0,.pt (nodeL op set kids mn mx md n neg))],[b0,.row 1 [I ((s+1+Re.sizeL (kids.take i):Nat):Int)] 0,.row 1 [.bool (fg && wholeL caps top (kids.take i))] 0,b3,.row 1 [.clo 85 [.rf 1 1 0 0,.rf 2 1 0 0,.pt pc,.pt [I top],.rf 4 1 0 0]] 0]⟩:St))
       (fun i=>s+1+Re.sizeL (kids.take i)≤256∧d+1+Re.depthL (kids.take i)≤25) ?_ ?_ ⟨by simp[Re.sizeL];omega,by simp[Re.depthL];omega⟩ _ ?_
      ·rintro i hi ⟨hb1,hb2⟩
       obtain⟨k,hk⟩:∃ k,kids[i]?=some k:=⟨_,List.getElem?_eq_getElem hi⟩
       obtain⟨ok,g2,s2,hcall,hok,himp⟩:=ih k (List.mem_of_getElem? hk) (d+1) (s+1+Re.sizeL (kids.take i)) (fg && wholeL caps top (kids.take i)) (by omega) (by omega)
       have e1:=Re.sizeL_take hk
       have e2:=Re.depthL_take hk
       have e3:=zEc (caps:=caps) (top:=top) hk
       have e4:=Re.sizeL_le (l:=kids) (i:=i+1)
       have e5:=Re.depthL_le (l:=kids) (i:=i+1)
       have hl8:=zAM k
       have ht8:=zAU k
       have hd1:((d:Int)+1)=((d+1:Nat):Int):=rfl
       cases ok with
       | false=>
         have hcf:=of_decide_eq_false hok.symm
         simp +contextual (disch:=omega) only[Tryz.f85,dd85,go_sem,simprocAttr,mu85,↓zAD,↓zAC,↓zAB,↓zAA,hk,hl8,ht8,hd1,hcall]
         repeat' (first|intro _|apply And.intro|(unfold dOk;kernel_rfl)|exact St.beq_refl _|(show altO _ _ _ _=true;kernel_rfl)|(show (_ || _)=true;kernel_rfl)|(show (_ && _)=true;kernel_rfl))
         refine⟨_,⟨false,g2,s2,rfl,?_,fun h=>by cases h⟩,rt false _ _ _ _⟩
         symm;rw[decide_eq_false_iff_not];omega
       | true=>
         have hct:=of_decide_eq_true hok.symm
         obtain⟨rfl,rfl⟩:=himp rfl
         rw[e1,e2,e3,← Bool.and_assoc]
         simp +contextual (disch:=omega) only[Tryz.f85,dd85,go_sem,simprocAttr,mu85,↓zAD,↓zAC,↓zAB,↓zAA,hk,hl8,ht8,hd1,hcall]
         repeat' (first|intro _|apply And.intro|(unfold dOk;kernel_rfl)|exact St.beq_refl _|(show altO _ _ _ _=true;kernel_rfl)|(show (_ || _)=true;kernel_rfl)|(show (_ && _)=true;kernel_rfl))
         rw[Nat.add_assoc (s+1)]
         rfl
      ·rintro⟨hb1,hb2⟩
       rw[List.take_length]at hb1 hb2 ⊢
       simp +contextual (disch:=omega) only[Tryz.f85,dd85,go_sem,simprocAttr,mu85,↓zAD,↓zAC,↓zAB,↓zAA]
       refine⟨_,⟨true,(fg && wholeL caps top kids),s+1+Re.sizeL kids,rfl,?_,fun _=>⟨by omega,by simp⟩⟩,rt true _ _ _ _⟩
       rfl
      ·rw[show (fg && wholeL caps top (List.take 0 kids))=fg by simp[wholeL]]
       rfl
    obtain⟨r,⟨ok,g',s',rfl,h1,h2⟩,h3⟩:=key
    exact⟨ok,g',s',h3,h1,h2⟩
structure Pat where
 re:Re
 caps:Int
 runes:Bool
abbrev patC (p:Pat):List AV:=reC p.re++[I p.caps,.bool p.runes]
abbrev patAV (p:Pat):AV:=.agg (patC p)
theorem zAu (p:Pat):AV.plainL (patC p)=true:=by
 rw[zEO]
 intro x hx
 rcases List.mem_append.1 hx with h|h
 ·exact(zEO _).1 (zAc p.re) x h
 ·simp at h;rcases h with rfl|rfl<;>rfl
def topI (r:Bool):Int:=if r then 1114111 else 255
theorem topI_le (r:Bool):topI r≤1114111:=by cases r<;>simp[topI]
def validP (p:Pat):Int:=if 256 < p.re.size∨24 < p.re.depth then 4 else if p.caps < 0∨9 < p.caps∨wholeG p.caps (topI p.runes) p.re=false then 1 else 0
theorem f48 (p:Pat) (hw:p.re.wt≤1000000) (H:List MB):call Tryz.prog pol1 53 [patAV p] H=some (I (validP p),H):=by
 obtain⟨re,caps,runes⟩:=p
 simp only at hw
 refine zAS Tryz.func53 rfl rfl rfl rfl rfl rfl (fun _=>rfl) (by simp[AV.plainL,AV.plain];exact zAu _) rfl ?_ H
 have hl8:=zAM re
 have hpl:=zAu ⟨re,caps,runes⟩
 have hget8:(reC re++[I caps,.bool runes])[8]?=some (I caps):=by rw[List.getElem?_append_right (by omega),hl8];rfl
 have hget9:(reC re++[I caps,.bool runes])[9]?=some (.bool runes):=by rw[List.getElem?_append_right (by omega),hl8];rfl
 have hz:fz (.rf 0 1 0 0) [.row 10 [.agg (reC re++[I caps,.bool runes])] 0]=some (.pt (reC re++[I caps,.bool runes]),[.row 10 [.agg (reC re++[I caps,.bool runes])] 1]):=
  zGM (x:=.agg (reC re++[I caps,.bool runes])) (k:=10) (z:=0) rfl rfl rfl hpl
 have hlen:(reC re).length+(0+1+1)=10:=by omega
 have h102:=f102 runes
 have hall:=zAt re
 have hz2:∀(b0 b1 b2:MB) (t:Int),fz (.rf 3 1 0 0) [b0,b1,b2,.row 1 [I t] 0]=some (.pt [I t],[b0,b1,b2,.row 1 [I t] 1]):=fun b0 b1 b2 t=>zGM (x:=I t) (k:=1) (z:=0) rfl rfl rfl rfl
 have htk8:∀ l,List.take 8 (reC re++l)=reC re:=fun l=>by
  rw[List.take_append_of_le_length (by omega)];exact List.take_of_length_le (by omega)
 rw[show (if runes=true then(1114111:Int) else 255)=topI runes from rfl]at h102
 have ht:=topI_le runes
 have h103:=fun(b0 b3:MB) (g:Bool)=>f103 b0 b3 (reC re++[I caps,.bool runes]) [I (topI runes)] hpl rfl caps (topI runes) ht hget8 rfl re.wt re (Nat.le_refl _) hw 1 0 g (by omega) (by omega)
 unfold validP
 simp only
 have hcp:(0≤caps∧caps≤9)∨(0≤caps∧¬ caps≤9)∨¬ 0≤caps:=by omega
 generalize topI runes=top at *
 rcases hcp with ⟨hc1,hc2⟩|⟨hc1,hc2⟩|hc1
 ·obtain⟨ok,g',s',hcall,hok,himp⟩:=h103 (.row 10 [.agg (reC re++[I caps,.bool runes])] 1) (.row 1 [I top] 1) true
  rw[show ((1:Nat):Int)=1 from rfl,show ((0:Nat):Int)=0 from rfl]at hcall
  cases ok with
  | false=>
    have hcf:=of_decide_eq_false hok.symm
    rw[if_pos (by omega)]
    simp +contextual (disch:=omega) only[Tryz.f53,dd53,go_sem,simprocAttr,mu53,↓zAD,↓zAC,↓zAB,↓zAA,hl8,hget8,hget9,hz,hz2,h102,hall,htk8,hcall,List.all_append,lookD,look]
    exact fzEq rfl rfl
  | true=>
    have hct:=of_decide_eq_true hok.symm
    obtain⟨_,hg'⟩:=himp rfl
    rw[if_neg (by omega)]
    cases hwg:wholeG caps top re with
    | true=>
      rw[if_neg (by simp;omega)]
      rw[hwg]at hg'
      simp only[Bool.and_true]at hg'
      subst hg'
      simp +contextual (disch:=omega) only[Tryz.f53,dd53,go_sem,simprocAttr,mu53,↓zAD,↓zAC,↓zAB,↓zAA,hl8,hget8,hget9,hz,hz2,h102,hall,htk8,hcall,List.all_append,lookD,look]
      exact fzEq rfl rfl
    | false=>
      rw[if_pos (by simp)]
      rw[hwg]at hg'
      simp only[Bool.and_false]at hg'
      subst hg'
      simp +contextual (disch:=omega) only[Tryz.f53,dd53,go_sem,simprocAttr,mu53,↓zAD,↓zAC,↓zAB,↓zAA,hl8,hget8,hget9,hz,hz2,h102,hall,htk8,hcall,List.all_append,lookD,look]
      exact fzEq rfl rfl
 ·obtain⟨ok,g',s',hcall,hok,himp⟩:=h103 (.row 10 [.agg (reC re++[I caps,.bool runes])] 1) (.row 1 [I top] 1) false
  rw[show ((1:Nat):Int)=1 from rfl,show ((0:Nat):Int)=0 from rfl]at hcall
  cases ok with
  | false=>
    have hcf:=of_decide_eq_false hok.symm
    rw[if_pos (by omega)]
    simp +contextual (disch:=omega) only[Tryz.f53,dd53,go_sem,simprocAttr,mu53,↓zAD,↓zAC,↓zAB,↓zAA,hl8,hget8,hget9,hz,hz2,h102,hall,htk8,hcall,List.all_append,lookD,look]
    exact fzEq rfl rfl
  | true=>
    have hct:=of_decide_eq_true hok.symm
    obtain⟨_,hg'⟩:=himp rfl
    rw[if_neg (by omega)]
    rw[if_pos (by omega)]
    simp only[Bool.false_and]at hg'
    subst hg'
    simp +contextual (disch:=omega) only[Tryz.f53,dd53,go_sem,simprocAttr,mu53,↓zAD,↓zAC,↓zAB,↓zAA,hl8,hget8,hget9,hz,hz2,h102,hall,htk8,hcall,List.all_append,lookD,look]
    exact fzEq rfl rfl
 ·obtain⟨ok,g',s',hcall,hok,himp⟩:=h103 (.row 10 [.agg (reC re++[I caps,.bool runes])] 1) (.row 1 [I top] 1) false
  rw[show ((1:Nat):Int)=1 from rfl,show ((0:Nat):Int)=0 from rfl]at hcall
  cases ok with
  | false=>
    have hcf:=of_decide_eq_false hok.symm
    rw[if_pos (by omega)]
    simp +contextual (disch:=omega) only[Tryz.f53,dd53,go_sem,simprocAttr,mu53,↓zAD,↓zAC,↓zAB,↓zAA,hl8,hget8,hget9,hz,hz2,h102,hall,htk8,hcall,List.all_append,lookD,look]
    exact fzEq rfl rfl
  | true=>
    have hct:=of_decide_eq_true hok.symm
    obtain⟨_,hg'⟩:=himp rfl
    rw[if_neg (by omega)]
    rw[if_pos (by omega)]
    simp only[Bool.false_and]at hg'
    subst hg'
    simp +contextual (disch:=omega) only[Tryz.f53,dd53,go_sem,simprocAttr,mu53,↓zAD,↓zAC,↓zAB,↓zAA,hl8,hget8,hget9,hz,hz2,h102,hall,htk8,hcall,List.all_append,lookD,look]
    exact fzEq rfl rfl
end
section
open Go.Proofs Go.RowKit Go.IntWalk
set_option maxRecDepth 100000
set_option maxHeartbeats 8000000
theorem f150 (op:Int) (H:List MB):call Tryz.prog pol1 196 [I op] H =
  some (.tup [I (if op=2∨op=3 then 2 else if op=4∨op=5∨op=7∨op=8∨op=9 then 1 else if op=10 then 2 else 0),I (if op=2∨op=3 then -1 else if op=4∨op=5∨op=7∨op=8∨op=9 then 1 else if op=10 then 2 else 0)],H):=by
 refine zAS Tryz.func196 rfl rfl rfl rfl rfl rfl (fun _=>rfl) rfl rfl ?_ H
 by_cases h1:op=2∨op=3
 ·rw[if_pos h1,if_pos h1]
  rcases h1 with rfl|rfl
  all_goals (
   simp +contextual (disch:=omega) only[Tryz.f196,dd196,go_sem,simprocAttr,mu196,↓zAD,↓zAC,↓zAB,↓zAA]
   exact fzEq rfl rfl)
 ·rw[if_neg h1,if_neg h1]
  by_cases h2:op=4∨op=5∨op=7∨op=8∨op=9
  ·rw[if_pos h2]
   rcases h2 with rfl|rfl|rfl|rfl|rfl
   all_goals (
    simp +contextual (disch:=omega) only[Tryz.f196,dd196,go_sem,simprocAttr,mu196,↓zAD,↓zAC,↓zAB,↓zAA]
    exact fzEq rfl rfl)
  ·rw[if_neg h2]
   by_cases h3:op=10
   ·rw[if_pos h3]
    subst h3
    simp +contextual (disch:=omega) only[Tryz.f196,dd196,go_sem,simprocAttr,mu196,↓zAD,↓zAC,↓zAB,↓zAA]
    exact fzEq rfl rfl
   ·rw[if_neg h3]
    simp +contextual (disch:=omega) only[Tryz.f196,dd196,go_sem,simprocAttr,mu196,↓zAD,↓zAC,↓zAB,↓zAA]
    exact fzEq rfl rfl
theorem f151 (l:List (Int×Int)) (top:Int) (ht:top≤1114111) (hl:l.length≤1000000) (H:List MB):call Tryz.prog pol1 197 [.sl false (l.map spanAV),I top] H=some (.bool (spansG l top),H):=by
 refine zAS Tryz.func197 rfl rfl rfl rfl rfl rfl (fun _=>rfl) (by simp[AV.plain,AV.plainL,zAG]) rfl ?_ H
 by_cases h64:64 < l.length
 ·rw[zFr h64]
  simp +contextual (disch:=omega) only[Tryz.f197,dd197,go_sem,simprocAttr,mu197,↓zAD,↓zAC,↓zAB,↓zAA]
  exact fzEq rfl rfl
 ·simp +contextual (disch:=omega) only[Tryz.f197,dd197,go_sem,simprocAttr,mu197,↓zAD,↓zAC,↓zAB,↓zAA]
  refine zAe (M:=(mskOf (pol1.mask 197) (pol1.gc 197) (pol1.acts 197) 0 4)) rfl l.length (fun i=>(⟨62,[(5,I i),(1,I top),(0,.sl false (l.map spanAV))],[]⟩:St)) (fun i=>∀ k,k < i→badS l top k=false) ?_ ?_ (fun k h=>by omega) _ (by first|rfl|(refine zAX (n:=0) (m:=⟨some [5,1,0],some 0,[]⟩) rfl rfl ?_ ?_ ?_<;>first|rfl|(simp[keepT,AV.underL,AV.under,MB.under,zAF,zAJ,zAK,zAE,zAG,zAH,zAI,-List.map_take,-List.map_replicate,-List.map_set];done)|(simp[keepT,AV.underL,AV.under,MB.under,zAF,zAJ,zAK,zAE,zAG,zAH,zAI,-List.map_take,-List.map_replicate,-List.map_set];omega)))
  ·intro i hlt hg
   obtain⟨p,hp⟩:∃ p,l[i]?=some p:=⟨_,List.getElem?_eq_getElem hlt⟩
   have ext:badS l top i=false→∀ k,k < i+1→badS l top k=false:=fun h k hk=>by
    rcases Nat.lt_or_ge k i with h1|h1
    ·exact hg k h1
    ·obtain rfl:k=i:=by omega
     exact h
   by_cases hgd:p.1 < 0∨p.2 < p.1∨top < p.2
   ·rw[zEM hlt (badS_lt hp hgd)]
    have hgd':p.1 < 0∨(¬ p.1 < 0∧p.2 < p.1)∨(¬ p.1 < 0∧¬ p.2 < p.1∧top < p.2):=by omega
    rcases hgd' with h|⟨h,h'⟩|⟨h,h',h''⟩
    all_goals (
     simp +contextual (disch:=omega) only[Tryz.f197,dd197,go_sem,simprocAttr,mu197,↓zAD,↓zAC,↓zAB,↓zAA,hp,spanAV]
     repeat' (first|intro _|apply And.intro|(unfold dOk;kernel_rfl)|exact St.beq_refl _|(show altO _ _ _ _=true;kernel_rfl)|(show (_ || _)=true;kernel_rfl)|(show (_ && _)=true;kernel_rfl))
     all_goals exact fzEq rfl rfl)
   ·rcases i with _|i
    ·simp +contextual (disch:=omega) only[Tryz.f197,dd197,go_sem,simprocAttr,mu197,↓zAD,↓zAC,↓zAB,↓zAA,hp,spanAV]
     repeat' (first|intro _|apply And.intro|(unfold dOk;kernel_rfl)|exact St.beq_refl _|(show altO _ _ _ _=true;kernel_rfl)|(show (_ || _)=true;kernel_rfl)|(show (_ && _)=true;kernel_rfl))
     ·exact ext (badS_zero hp hgd) _ ‹_›
     ·exact(by first|rfl|(refine zAX (n:=0) (m:=⟨some [5,1,0],some 0,[]⟩) rfl rfl ?_ ?_ ?_<;>first|rfl|(simp[keepT,AV.underL,AV.under,MB.under,zAF,zAJ,zAK,zAE,zAG,zAH,zAI,-List.map_take,-List.map_replicate,-List.map_set];done)|(simp[keepT,AV.underL,AV.under,MB.under,zAF,zAJ,zAK,zAE,zAG,zAH,zAI,-List.map_take,-List.map_replicate,-List.map_set];omega)))
    ·obtain⟨q,hq⟩:∃ q,l[i]?=some q:=⟨_,List.getElem?_eq_getElem (by omega)⟩
     have hqb:=badS_hi hq (hg i (by omega))
     have hb:=badS_succ hp hq hgd
     by_cases h2:p.1 < q.2+2
     ·rw[zEM hlt (by rw[hb];simp[h2])]
      simp +contextual (disch:=omega) only[Tryz.f197,dd197,go_sem,simprocAttr,mu197,↓zAD,↓zAC,↓zAB,↓zAA,hp,hq,spanAV]
      repeat' (first|intro _|apply And.intro|(unfold dOk;kernel_rfl)|exact St.beq_refl _|(show altO _ _ _ _=true;kernel_rfl)|(show (_ || _)=true;kernel_rfl)|(show (_ && _)=true;kernel_rfl))
      all_goals exact fzEq rfl rfl
     ·simp +contextual (disch:=omega) only[Tryz.f197,dd197,go_sem,simprocAttr,mu197,↓zAD,↓zAC,↓zAB,↓zAA,hp,hq,spanAV]
      repeat' (first|intro _|apply And.intro|(unfold dOk;kernel_rfl)|exact St.beq_refl _|(show altO _ _ _ _=true;kernel_rfl)|(show (_ || _)=true;kernel_rfl)|(show (_ && _)=true;kernel_rfl))
      ·exact ext (by rw[hb];simp[h2]) _ ‹_›
      ·exact(by first|rfl|(refine zAX (n:=0) (m:=⟨some [5,1,0],some 0,[]⟩) rfl rfl ?_ ?_ ?_<;>first|rfl|(simp[keepT,AV.underL,AV.under,MB.under,zAF,zAJ,zAK,zAE,zAG,zAH,zAI,-List.map_take,-List.map_replicate,-List.map_set];done)|(simp[keepT,AV.underL,AV.under,MB.under,zAF,zAJ,zAK,zAE,zAG,zAH,zAI,-List.map_take,-List.map_replicate,-List.map_set];omega)))
  ·intro hg
   rw[zFs (by omega) hg]
   simp +contextual (disch:=omega) only[Tryz.f197,dd197,go_sem,simprocAttr,mu197,↓zAD,↓zAC,↓zAB,↓zAA]
   exact fzEq rfl rfl
theorem f135 (caps top:Int) (ht:top≤1114111) (op:Int) (set:List (Int×Int)) (kids:List Re) (mn mx md n:Int) (neg:Bool) (hs:set.length≤1000000) (hk:kids.length≤1000000) (H:List MB) :
  call Tryz.prog pol1 192 [.agg (nodeL op set kids mn mx md n neg),I caps,I top] H=some (.bool (formedG caps top (.mk op set kids mn mx md n neg)),H):=by
 refine zAS Tryz.func192 rfl rfl rfl rfl rfl rfl (fun _=>rfl) (by simp[AV.plain,AV.plainL,zAG,zAL]) rfl ?_ H
 have h151:=f151 set top ht hs
 have h150:=f150 op
 by_cases h0:op < 0∨11 < op
 ·have e:formedG caps top (.mk op set kids mn mx md n neg)=false:=by
   have:¬ (0≤op∧op≤11):=by omega
   simp only[formedG,Bool.and_eq_false_iff,decide_eq_false_iff_not]
   omega
  rw[e]
  have h0':op < 0∨(¬ op < 0∧11 < op):=by omega
  rcases h0' with h|⟨h,h'⟩
  all_goals (
   simp +contextual (disch:=omega) only[Tryz.f192,dd192,go_sem,simprocAttr,mu192,↓zAD,↓zAC,↓zAB,↓zAA,h150]
   repeat' (first|intro _|apply And.intro|(unfold dOk;kernel_rfl)|exact St.beq_refl _|(show altO _ _ _ _=true;kernel_rfl)|(show (_ || _)=true;kernel_rfl)|(show (_ && _)=true;kernel_rfl))
   all_goals exact fzEq rfl rfl)
 have hop:op=1∨op=4∨op=0∨op=2∨op=3∨op=5∨op=6∨op=7∨op=8∨op=9∨op=10∨op=11:=by omega
 clear h0
 rcases hop with rfl|rfl|rfl|rfl|rfl|rfl|rfl|rfl|rfl|rfl|rfl|rfl
 ·cases hsp:spansG set top
  all_goals (
   rw[hsp]at h151
   simp at h150
   cases neg <;>
   simp +contextual (disch:=omega) only[Tryz.f192,dd192,go_sem,simprocAttr,mu192,↓zAD,↓zAC,↓zAB,↓zAA,h150,h151]
   repeat' (first|intro _|apply And.intro|(unfold dOk;kernel_rfl)|exact St.beq_refl _|(show altO _ _ _ _=true;kernel_rfl)|(show (_ || _)=true;kernel_rfl)|(show (_ && _)=true;kernel_rfl))
   all_goals (clear h151 h150;refine fzEq rfl (congrArg AV.bool ?_);first|(simp_all [formedG,kidsG,repG,-List.length_eq_zero_iff];done)|(simp_all [formedG,kidsG,repG,-List.length_eq_zero_iff];omega)))
 all_goals (
  simp at h150
  cases neg <;>
  simp +contextual (disch:=omega) only[Tryz.f192,dd192,go_sem,simprocAttr,mu192,↓zAD,↓zAC,↓zAB,↓zAA,h150]
  repeat' (first|intro _|apply And.intro|(unfold dOk;kernel_rfl)|exact St.beq_refl _|(show altO _ _ _ _=true;kernel_rfl)|(show (_ || _)=true;kernel_rfl)|(show (_ && _)=true;kernel_rfl))
  all_goals (clear h151 h150;refine fzEq rfl (congrArg AV.bool ?_);first|(simp_all [formedG,kidsG,repG,-List.length_eq_zero_iff];done)|(simp_all [formedG,kidsG,repG,-List.length_eq_zero_iff];omega)))
end
section
open Go.Proofs Go.RowKit Go.IntWalk
set_option maxRecDepth 100000
set_option maxHeartbeats 8000000
theorem f114 (caps top:Int) (ht:top≤1114111):∀(N:Nat) (r:Re),r.wt≤N→r.wt≤1000000→∀ H,call Tryz.prog pol1 175 [reAV r,I caps,I top] H=some (.bool (wholeG caps top r),H)
 | 0,r,h,_,_=>by have:=r.wt_pos;omega
 | N+1,.mk op set kids mn mx md n neg,h,hN,H=>by
   have hkl:=Re.wtL_len kids
   have hwt:1+set.length+Re.wtL kids=(Re.mk op set kids mn mx md n neg).wt:=by simp[Re.wt]
   have ih:=fun k (hk:k∈kids)=>f114 caps top ht N k (by have:=Re.wtL_mem hk;omega) (by have:=Re.wtL_mem hk;omega)
   have h135:=f135 caps top ht op set kids mn mx md n neg (by omega) (by omega)
   rw[show reAV (.mk op set kids mn mx md n neg)=.agg (nodeL op set kids mn mx md n neg) from congrArg AV.agg zCm]
   refine zAS Tryz.func175 rfl rfl rfl rfl rfl rfl (fun _=>rfl) (by simp[AV.plain,AV.plainL,zAG,zAL]) rfl ?_ H
   rw[wholeG]
   cases hfg:formedG caps top (.mk op set kids mn mx md n neg) with
   | false=>
     rw[hfg]at h135
     simp +contextual (disch:=omega) only[Tryz.f175,dd175,go_sem,simprocAttr,mu175,↓zAD,↓zAC,↓zAB,↓zAA,h135]
     exact fzEq rfl rfl
   | true=>
     rw[hfg]at h135
     simp +contextual (disch:=omega) only[Tryz.f175,dd175,go_sem,simprocAttr,mu175,↓zAD,↓zAC,↓zAB,↓zAA,h135]
     refine zAe (M:=(mskOf (pol1.mask 175) (pol1.gc 175) (pol1.acts 175) 0 4)) rfl kids.length (fun i=>(⟨29,[(7,I i),(3,.rf 0 1 0 0),(2,I top),(1,I caps)],[.row 8 [.agg (nodeL op set kids mn mx md n neg)] 0]⟩:St)) (fun i=>wholeL caps top (kids.take i)=true) ?_ ?_ (by simp[wholeL]) _ (by first|rfl|(refine zAX (n:=1) (m:=⟨some [7,3,2,1],some 1,[]⟩) rfl rfl ?_ ?_ ?_<;>first|rfl|(simp[keepT,AV.underL,AV.under,MB.under,zAF,zAJ,zAK,zAE,zAG,zAH,zAI,-List.map_take,-List.map_replicate,-List.map_set,zAL];done)|(simp[keepT,AV.underL,AV.under,MB.under,zAF,zAJ,zAK,zAE,zAG,zAH,zAI,-List.map_take,-List.map_replicate,-List.map_set,zAL];omega)))
     ·intro i hi hg
      obtain⟨k,hk⟩:∃ k,kids[i]?=some k:=⟨_,List.getElem?_eq_getElem hi⟩
      have ihk:=ih k (List.mem_of_getElem? hk)
      have hl8:=zAM k
      have ht8:=zAU k
      have e3:=zEc (caps:=caps) (top:=top) hk
      cases hn:wholeG caps top k with
      | false=>
        rw[hn]at ihk
        have hf:wholeL caps top kids=false:=by
         rw[Bool.eq_false_iff]
         intro hw
         rw[zFF]at hw
         have:=hw k (List.mem_of_getElem? hk)
         rw[hn]at this;cases this
        rw[hf]
        simp +contextual (disch:=omega) only[Tryz.f175,dd175,go_sem,simprocAttr,mu175,↓zAD,↓zAC,↓zAB,↓zAA,hk,ihk,hl8,ht8]
        exact fzEq rfl rfl
      | true=>
        rw[hn]at ihk
        rw[e3,hg,hn]
        simp +contextual (disch:=omega) only[Tryz.f175,dd175,go_sem,simprocAttr,mu175,↓zAD,↓zAC,↓zAB,↓zAA,hk,ihk,hl8,ht8]
        exact(by first|rfl|(refine zAX (n:=1) (m:=⟨some [7,3,2,1],some 1,[]⟩) rfl rfl ?_ ?_ ?_<;>first|rfl|(simp[keepT,AV.underL,AV.under,MB.under,zAF,zAJ,zAK,zAE,zAG,zAH,zAI,-List.map_take,-List.map_replicate,-List.map_set,zAL];done)|(simp[keepT,AV.underL,AV.under,MB.under,zAF,zAJ,zAK,zAE,zAG,zAH,zAI,-List.map_take,-List.map_replicate,-List.map_set,zAL];omega)))
     ·intro hg
      rw[List.take_length]at hg
      rw[hg]
      simp +contextual (disch:=omega) only[Tryz.f175,dd175,go_sem,simprocAttr,mu175,↓zAD,↓zAC,↓zAB,↓zAA]
      exact fzEq rfl rfl
theorem f52 (p:Pat) (hw:p.re.wt≤1000000) (H:List MB):call Tryz.prog pol1 142 [patAV p] H=some (I (validP p),H):=by
 obtain⟨re,caps,runes⟩:=p
 simp only at hw
 refine zAS Tryz.func142 rfl rfl rfl rfl rfl rfl (fun _=>rfl) (by simp[AV.plainL,AV.plain];exact zAu _) rfl ?_ H
 have hl8:=zAM re
 have hget8:(reC re++[I caps,.bool runes])[8]?=some (I caps):=by rw[List.getElem?_append_right (by omega),hl8];rfl
 have hget9:(reC re++[I caps,.bool runes])[9]?=some (.bool runes):=by rw[List.getElem?_append_right (by omega),hl8];rfl
 have htk8:∀ l,List.take 8 (reC re++l)=reC re:=fun l=>by
  rw[List.take_append_of_le_length (by omega)];exact List.take_of_length_le (by omega)
 have hall:=zAt re
 have h112:=f112 re.wt re (Nat.le_refl _) hw
 have h113:=f113 re.wt re (Nat.le_refl _) hw
 have h114:=f114 caps (topI runes) (topI_le runes) re.wt re (Nat.le_refl _) hw
 have hsw:=re.size_wt
 cases runes
 ·rw[show topI false=255 from rfl]at h114
  by_cases h1:256 < re.size
  ·rw[show validP ⟨re,caps,false⟩=4 from if_pos (.inl h1)]
   simp +contextual (disch:=omega) only[Tryz.f142,zFd,go_sem,simprocAttr,zFb,↓zAD,↓zAC,↓zAB,↓zAA,hl8,hget8,hget9,h112,h113,hall,htk8,List.all_append]
   repeat' (first|intro _|apply And.intro|(unfold dOk;kernel_rfl)|exact St.beq_refl _|(show altO _ _ _ _=true;kernel_rfl)|(show (_ || _)=true;kernel_rfl)|(show (_ && _)=true;kernel_rfl))
   all_goals exact fzEq rfl rfl
  by_cases h2:24 < re.depth
  ·rw[show validP ⟨re,caps,false⟩=4 from if_pos (.inr h2)]
   simp +contextual (disch:=omega) only[Tryz.f142,zFd,go_sem,simprocAttr,zFb,↓zAD,↓zAC,↓zAB,↓zAA,hl8,hget8,hget9,h112,h113,hall,htk8,List.all_append]
   repeat' (first|intro _|apply And.intro|(unfold dOk;kernel_rfl)|exact St.beq_refl _|(show altO _ _ _ _=true;kernel_rfl)|(show (_ || _)=true;kernel_rfl)|(show (_ && _)=true;kernel_rfl))
   all_goals exact fzEq rfl rfl
  have hno:¬ (256 < re.size∨24 < re.depth):=by omega
  have hcp:(caps < 0)∨(¬ caps < 0∧9 < caps)∨(¬ caps < 0∧¬ 9 < caps):=by omega
  rcases hcp with h3|⟨h3,h4⟩|⟨h3,h4⟩
  ·rw[show validP ⟨re,caps,false⟩=1 from(if_neg hno).trans (if_pos (.inl h3))]
   simp +contextual (disch:=omega) only[Tryz.f142,zFd,go_sem,simprocAttr,zFb,↓zAD,↓zAC,↓zAB,↓zAA,hl8,hget8,hget9,h112,h113,hall,htk8,List.all_append]
   repeat' (first|intro _|apply And.intro|(unfold dOk;kernel_rfl)|exact St.beq_refl _|(show altO _ _ _ _=true;kernel_rfl)|(show (_ || _)=true;kernel_rfl)|(show (_ && _)=true;kernel_rfl))
   all_goals exact fzEq rfl rfl
  ·rw[show validP ⟨re,caps,false⟩=1 from(if_neg hno).trans (if_pos (.inr (.inl h4)))]
   simp +contextual (disch:=omega) only[Tryz.f142,zFd,go_sem,simprocAttr,zFb,↓zAD,↓zAC,↓zAB,↓zAA,hl8,hget8,hget9,h112,h113,hall,htk8,List.all_append]
   repeat' (first|intro _|apply And.intro|(unfold dOk;kernel_rfl)|exact St.beq_refl _|(show altO _ _ _ _=true;kernel_rfl)|(show (_ || _)=true;kernel_rfl)|(show (_ && _)=true;kernel_rfl))
   all_goals exact fzEq rfl rfl
  ·cases hwg:wholeG caps 255 re with
   | true=>
     rw[hwg]at h114
     rw[show validP ⟨re,caps,false⟩=0 from(if_neg hno).trans (if_neg (by simp only[topI,Bool.false_eq_true,if_false,if_true,hwg];simp;omega))]
     simp +contextual (disch:=omega) only[Tryz.f142,zFd,go_sem,simprocAttr,zFb,↓zAD,↓zAC,↓zAB,↓zAA,hl8,hget8,hget9,h112,h113,h114,hall,htk8,List.all_append]
     repeat' (first|intro _|apply And.intro|(unfold dOk;kernel_rfl)|exact St.beq_refl _|(show altO _ _ _ _=true;kernel_rfl)|(show (_ || _)=true;kernel_rfl)|(show (_ && _)=true;kernel_rfl))
     all_goals exact fzEq rfl rfl
   | false=>
     rw[hwg]at h114
     rw[show validP ⟨re,caps,false⟩=1 from(if_neg hno).trans (if_pos (.inr (.inr hwg)))]
     simp +contextual (disch:=omega) only[Tryz.f142,zFd,go_sem,simprocAttr,zFb,↓zAD,↓zAC,↓zAB,↓zAA,hl8,hget8,hget9,h112,h113,h114,hall,htk8,List.all_append]
     repeat' (first|intro _|apply And.intro|(unfold dOk;kernel_rfl)|exact St.beq_refl _|(show altO _ _ _ _=true;kernel_rfl)|(show (_ || _)=true;kernel_rfl)|(show (_ && _)=true;kernel_rfl))
     all_goals exact fzEq rfl rfl
 ·rw[show topI true=1114111 from rfl]at h114
  by_cases h1:256 < re.size
  ·rw[show validP ⟨re,caps,true⟩=4 from if_pos (.inl h1)]
   simp +contextual (disch:=omega) only[Tryz.f142,zFd,go_sem,simprocAttr,zFb,↓zAD,↓zAC,↓zAB,↓zAA,hl8,hget8,hget9,h112,h113,hall,htk8,List.all_append]
   repeat' (first|intro _|apply And.intro|(unfold dOk;kernel_rfl)|exact St.beq_refl _|(show altO _ _ _ _=true;kernel_rfl)|(show (_ || _)=true;kernel_rfl)|(show (_ && _)=true;kernel_rfl))
   all_goals exact fzEq rfl rfl
  by_cases h2:24 < re.depth
  ·rw[show validP ⟨re,caps,true⟩=4 from if_pos (.inr h2)]
   simp +contextual (disch:=omega) only[Tryz.f142,zFd,go_sem,simprocAttr,zFb,↓zAD,↓zAC,↓zAB,↓zAA,hl8,hget8,hget9,h112,h113,hall,htk8,List.all_append]
   repeat' (first|intro _|apply And.intro|(unfold dOk;kernel_rfl)|exact St.beq_refl _|(show altO _ _ _ _=true;kernel_rfl)|(show (_ || _)=true;kernel_rfl)|(show (_ && _)=true;kernel_rfl))
   all_goals exact fzEq rfl rfl
  have hno:¬ (256 < re.size∨24 < re.depth):=by omega
  have hcp:(caps < 0)∨(¬ caps < 0∧9 < caps)∨(¬ caps < 0∧¬ 9 < caps):=by omega
  rcases hcp with h3|⟨h3,h4⟩|⟨h3,h4⟩
  ·rw[show validP ⟨re,caps,true⟩=1 from(if_neg hno).trans (if_pos (.inl h3))]
   simp +contextual (disch:=omega) only[Tryz.f142,zFd,go_sem,simprocAttr,zFb,↓zAD,↓zAC,↓zAB,↓zAA,hl8,hget8,hget9,h112,h113,hall,htk8,List.all_append]
   repeat' (first|intro _|apply And.intro|(unfold dOk;kernel_rfl)|exact St.beq_refl _|(show altO _ _ _ _=true;kernel_rfl)|(show (_ || _)=true;kernel_rfl)|(show (_ && _)=true;kernel_rfl))
   all_goals exact fzEq rfl rfl
  ·rw[show validP ⟨re,caps,true⟩=1 from(if_neg hno).trans (if_pos (.inr (.inl h4)))]
   simp +contextual (disch:=omega) only[Tryz.f142,zFd,go_sem,simprocAttr,zFb,↓zAD,↓zAC,↓zAB,↓zAA,hl8,hget8,hget9,h112,h113,hall,htk8,List.all_append]
   repeat' (first|intro _|apply And.intro|(unfold dOk;kernel_rfl)|exact St.beq_refl _|(show altO _ _ _ _=true;kernel_rfl)|(show (_ || _)=true;kernel_rfl)|(show (_ && _)=true;kernel_rfl))
   all_goals exact fzEq rfl rfl
  ·cases hwg:wholeG caps 1114111 re with
   | true=>
     rw[hwg]at h114
     rw[show validP ⟨re,caps,true⟩=0 from(if_neg hno).trans (if_neg (by simp only[topI,Bool.false_eq_true,if_false,if_true,hwg];simp;omega))]
     simp +contextual (disch:=omega) only[Tryz.f142,zFd,go_sem,simprocAttr,zFb,↓zAD,↓zAC,↓zAB,↓zAA,hl8,hget8,hget9,h112,h113,h114,hall,htk8,List.all_append]
     repeat' (first|intro _|apply And.intro|(unfold dOk;kernel_rfl)|exact St.beq_refl _|(show altO _ _ _ _=true;kernel_rfl)|(show (_ || _)=true;kernel_rfl)|(show (_ && _)=true;kernel_rfl))
     all_goals exact fzEq rfl rfl
   | false=>
     rw[hwg]at h114
     rw[show validP ⟨re,caps,true⟩=1 from(if_neg hno).trans (if_pos (.inr (.inr hwg)))]
     simp +contextual (disch:=omega) only[Tryz.f142,zFd,go_sem,simprocAttr,zFb,↓zAD,↓zAC,↓zAB,↓zAA,hl8,hget8,hget9,h112,h113,h114,hall,htk8,List.all_append]
     repeat' (first|intro _|apply And.intro|(unfold dOk;kernel_rfl)|exact St.beq_refl _|(show altO _ _ _ _=true;kernel_rfl)|(show (_ || _)=true;kernel_rfl)|(show (_ && _)=true;kernel_rfl))
     all_goals exact fzEq rfl rfl
end
section
open Go.Proofs Go.RowKit Go.IntWalk
set_option maxRecDepth 100000
set_option maxHeartbeats 8000000
theorem f137 (re:Re) (caps:Int) (t:List Int) (fuel:Int) (hw:re.wt≤1000000) (hv:validP ⟨re,caps,false⟩=0) (hl:t.length≤65536) (ht:∀ x∈t,0≤x∧x≤255) (hf:0≤fuel∧fuel≤1000000) (H:List MB) :
  call Tryz.prog pol1 117 [patAV ⟨re,caps,false⟩,.sl false (t.map I),I fuel] H=some (I 0,H):=by
 have h52:=f52 ⟨re,caps,false⟩ hw
 rw[hv]at h52
 have hpl:=zAu ⟨re,caps,false⟩
 refine zAS Tryz.func117 rfl rfl rfl rfl rfl rfl (fun _=>rfl) (by simp[AV.plainL,AV.plain,zAE];exact hpl) rfl ?_ H
 have hl8:=zAM re
 have hget9:(reC re++[I caps,.bool false])[9]?=some (.bool false):=by rw[List.getElem?_append_right (by omega),hl8];rfl
 have htk:List.take 10 (reC re++[I caps,.bool false])=reC re++[I caps,.bool false]:=List.take_of_length_le (by simp[zAM])
 have hall:=zAt re
 simp +contextual (disch:=omega) only[Tryz.f117,dd117,go_sem,simprocAttr,mu117,↓zAD,↓zAC,↓zAB,↓zAA,h52,hl8,hget9,htk,hall,List.all_append]
 repeat' (first|intro _|apply And.intro|(unfold dOk;kernel_rfl)|exact St.beq_refl _|(show altO _ _ _ _=true;kernel_rfl)|(show (_ || _)=true;kernel_rfl)|(show (_ && _)=true;kernel_rfl))
 refine zAe (M:=(mskOf (pol1.mask 117) (pol1.gc 117) (pol1.acts 117) 0 10)) rfl t.length (fun i=>(⟨45,[(9,I i),(8,I 255),(2,I fuel),(1,.sl false (t.map I))],[.row 10 [patAV ⟨re,caps,false⟩] 0]⟩:St)) (fun _=>True) ?_ ?_ trivial _ (by first|rfl|(refine zA0 rfl (by rfl) (by rfl) (by rfl) ?_ ?_<;>simp[AV.underL,AV.under,MB.under,zAF,zAJ,zAE,zAG,zAH,zAI,-List.map_take]))
 ·intro i hi _
  obtain⟨x,hx⟩:∃ x,t[i]?=some x:=⟨_,List.getElem?_eq_getElem hi⟩
  have hb:=ht x (List.mem_of_getElem? hx)
  simp +contextual (disch:=omega) only[Tryz.f117,dd117,go_sem,simprocAttr,mu117,↓zAD,↓zAC,↓zAB,↓zAA,hx]
  repeat' (first|intro _|apply And.intro|(unfold dOk;kernel_rfl)|exact St.beq_refl _|(show altO _ _ _ _=true;kernel_rfl)|(show (_ || _)=true;kernel_rfl)|(show (_ && _)=true;kernel_rfl))
  all_goals exact(by first|rfl|(simp[keepT,AV.underL,AV.under,MB.under,zAF,zAJ,zAK,zAE,zAG,zAH,zAI,-List.map_take,-List.map_replicate,-List.map_set, *];done))
 ·intro _
  simp +contextual (disch:=omega) only[Tryz.f117,dd117,go_sem,simprocAttr,mu117,↓zAD,↓zAC,↓zAB,↓zAA]
  repeat' (first|intro _|apply And.intro|(unfold dOk;kernel_rfl)|exact St.beq_refl _|(show altO _ _ _ _=true;kernel_rfl)|(show (_ || _)=true;kernel_rfl)|(show (_ && _)=true;kernel_rfl))
  all_goals exact fzEq rfl rfl
abbrev bare (n:Nat):Caps:=List.replicate n (-1,-1)
theorem f139 (n:Nat) (hn:n≤1000) (H:List MB):call Tryz.prog pol1 119 [I n] H=some (capA (bare n),H):=by
 refine zAS Tryz.func119 rfl rfl rfl rfl rfl rfl (fun _=>rfl) (by simp[AV.plain,AV.plainL]) (show AV.plain (.sl false _)=true from zAG (bare n)) ?_ H
 simp +contextual (disch:=omega) only[Tryz.f119,dd119,go_sem,simprocAttr,mu119,↓zAD,↓zAC,↓zAB,↓zAA]
 refine zAe (M:=(mskOf (pol1.mask 119) (pol1.gc 119) (pol1.acts 119) 0 3)) rfl n (fun j=>(⟨15,[(4,I j),(3,.ms 0 2 j 0 j),(0,I n)],[.row 2 ((bare j).map spanAV) 0]⟩:St)) (fun _=>True) ?_ ?_ trivial _ (by first|rfl|(refine zA0 rfl (by rfl) (by rfl) (by rfl) ?_ ?_<;>simp[AV.underL,AV.under,MB.under,zAF,zAJ,zAE,zAG,zAH,zAI,-List.map_take]))
 ·intro j hj _
  have hl:(bare j).length=j:=by simp
  have hs:bare (j+1)=bare j++[(-1,-1)]:=List.replicate_succ'
  rw[hs]
  generalize bare j=cs at *
  have htk:=zCt (f:=spanAV) hl
  simp +contextual (disch:=omega) only[Tryz.f119,dd119,go_sem,simprocAttr,mu119,↓zAD,↓zAC,↓zAB,↓zAA,hl,htk]
  repeat' (first|intro _|apply And.intro|(unfold dOk;kernel_rfl)|exact St.beq_refl _|(show altO _ _ _ _=true;kernel_rfl)|(show (_ || _)=true;kernel_rfl)|(show (_ && _)=true;kernel_rfl))
  all_goals exact(by first|rfl|(refine zAX (n:=1) (m:=⟨some [4,3,0],some 1,[]⟩) rfl rfl ?_ ?_ ?_<;>first|rfl|(simp[keepT,AV.underL,AV.under,MB.under,zAF,zAJ,zAK,zAE,zAG,zAH,zAI,-List.map_take,-List.map_replicate,-List.map_set, *];done)|(simp[keepT,AV.underL,AV.under,MB.under,zAF,zAJ,zAK,zAE,zAG,zAH,zAI,-List.map_take,-List.map_replicate,-List.map_set, *];omega)))
 ·intro _
  have hl:(bare n).length=n:=by simp
  generalize bare n=cs at *
  simp +contextual (disch:=omega) only[Tryz.f119,dd119,go_sem,simprocAttr,mu119,↓zAD,↓zAC,↓zAB,↓zAA,hl]
  simp only[fz]
  rw[zDJ (els:=cs.map spanAV) (k:=2) (z:=0) rfl (by simp[hl]) (zAG cs)]
  exact⟨_,rfl⟩
def symJ:List Int:=[97,97,97,98,98,99,97,98,10,32,65,200]
def textT (l:List Int) (n:Nat):List Int:=(List.range n).map fun(i:Nat)=>symJ.getD (pickI l i 12).toNat 0
theorem textT_succ (l:List Int) (n:Nat):textT l (n+1)=textT l n++[symJ.getD (pickI l n 12).toNat 0]:=by simp[textT,List.range_succ]
theorem zFo (l:List Int) (n:Nat):(textT l n).length=n:=by simp[textT]
theorem textT_in (l:List Int) (n:Nat):∀ x∈textT l n,0≤x∧x≤255:=by
 intro x hx
 obtain⟨i,_,rfl⟩:=List.mem_map.1 hx
 have hp:=zHe (l:=l) (i:=i) (m:=12) (by omega)
 generalize (pickI l i 12)=k at hp
 have:k=0∨k=1∨k=2∨k=3∨k=4∨k=5∨k=6∨k=7∨k=8∨k=9∨k=10∨k=11:=by omega
 rcases this with rfl|rfl|rfl|rfl|rfl|rfl|rfl|rfl|rfl|rfl|rfl|rfl<;>decide
theorem f122 (l:List Int) (hl:∀ x∈l,In64 x) (H:List MB):call Tryz.prog pol1 30 [.sl false (l.map I),I 12] H=some (.sl false ((textT l (min l.length 12)).map I),H):=by
 refine zAS Tryz.func30 rfl rfl rfl rfl rfl rfl (fun _=>rfl) (by simp[AV.plain,AV.plainL,zAE]) (by simp[AV.plain,zAE]) ?_ H
 simp +contextual (disch:=omega) only[Tryz.f30,dd30,go_sem,simprocAttr,mu30,↓zAD,↓zAC,↓zAB,↓zAA]
 refine zAe (M:=(mskOf (pol1.mask 30) (pol1.gc 30) (pol1.acts 30) 0 3)) rfl (min l.length 12) (fun j=>(⟨28,[(6,I j),(5,.ms 0 1 j 0 j),(1,I 12),(0,.sl false (l.map I))],[.row 1 ((textT l j).map I) 0]⟩:St)) (fun _=>True) ?_ ?_ trivial _ (by first|rfl|(refine zA0 rfl (by rfl) (by rfl) (by rfl) ?_ ?_<;>simp[AV.underL,AV.under,MB.under,zAF,zAJ,zAE,zAG,zAH,zAI,-List.map_take]))
 ·intro j hj _
  have ht:=zFo l j
  have h57:=f57 l j 12 hl (by omega)
  have hp:=zHe (l:=l) (i:=j) (m:=12) (by omega)
  rw[textT_succ]
  generalize textT l j=cs at *
  have htk:=zCt (f:=I) ht
  generalize pickI l j 12=k at *
  obtain⟨v,hv⟩:∃ v,symJ[k.toNat]?=some v:=⟨_,List.getElem?_eq_getElem (by simp[symJ];omega)⟩
  rw[List.getD_eq_getElem?_getD,hv,Option.getD_some]
  obtain⟨k,rfl⟩:∃ n:Nat,k=n:=⟨k.toNat,by omega⟩
  have hv2:[I 97,I 97,I 97,I 98,I 98,I 99,I 97,I 98,I 10,I 32,I 65,I 200][k]?=some (I v):=by
   have:symJ.map I=[I 97,I 97,I 97,I 98,I 98,I 99,I 97,I 98,I 10,I 32,I 65,I 200]:=rfl
   rw[← this,List.getElem?_map]
   simpa using congrArg (Option.map I) hv
  have c1:j < l.length:=by omega
  have c2:j < 12:=by omega
  simp +contextual (disch:=omega) only[Tryz.f30,dd30,go_sem,simprocAttr,mu30,↓zAD,↓zAC,↓zAB,↓zAA,ht,htk,h57,hv2]
  repeat' (first|intro _|apply And.intro|(unfold dOk;kernel_rfl)|exact St.beq_refl _|(show altO _ _ _ _=true;kernel_rfl)|(show (_ || _)=true;kernel_rfl)|(show (_ && _)=true;kernel_rfl))
  all_goals exact(by first|rfl|(refine zAX (n:=1) (m:=⟨some [6,5,1,0],some 1,[]⟩) rfl rfl ?_ ?_ ?_<;>first|rfl|(simp[keepT,AV.underL,AV.under,MB.under,zAF,zAJ,zAK,zAE,zAG,zAH,zAI,-List.map_take,-List.map_replicate,-List.map_set, *];done)|(simp[keepT,AV.underL,AV.under,MB.under,zAF,zAJ,zAK,zAE,zAG,zAH,zAI,-List.map_take,-List.map_replicate,-List.map_set, *];omega)))
 ·intro _
  have ht:=zFo l (min l.length 12)
  generalize textT l (min l.length 12)=cs at *
  by_cases c:l.length < 12
  ·rw[Nat.min_eq_left (by omega)]at *
   simp +contextual (disch:=omega) only[Tryz.f30,dd30,go_sem,simprocAttr,mu30,↓zAD,↓zAC,↓zAB,↓zAA,ht]
   simp only[fz]
   rw[zDJ (els:=cs.map I) (k:=1) (z:=0) rfl (by simp[ht]) (zAE cs)]
   exact⟨_,rfl⟩
  ·rw[Nat.min_eq_right (by omega)]at *
   by_cases c2:12=l.length
   ·simp +contextual (disch:=omega) only[Tryz.f30,dd30,go_sem,simprocAttr,mu30,↓zAD,↓zAC,↓zAB,↓zAA,ht]
    repeat' (first|intro _|apply And.intro|(unfold dOk;kernel_rfl)|exact St.beq_refl _|(show altO _ _ _ _=true;kernel_rfl)|(show (_ || _)=true;kernel_rfl)|(show (_ && _)=true;kernel_rfl))
    all_goals simp only[fz]
    all_goals rw[zDJ (els:=cs.map I) (k:=1) (z:=0) rfl (by simp[ht]) (zAE cs)]
    all_goals exact⟨_,rfl⟩
   ·simp +contextual (disch:=omega) only[Tryz.f30,dd30,go_sem,simprocAttr,mu30,↓zAD,↓zAC,↓zAB,↓zAA,ht]
    repeat' (first|intro _|apply And.intro|(unfold dOk;kernel_rfl)|exact St.beq_refl _|(show altO _ _ _ _=true;kernel_rfl)|(show (_ || _)=true;kernel_rfl)|(show (_ && _)=true;kernel_rfl))
    all_goals simp only[fz]
    all_goals rw[zDJ (els:=cs.map I) (k:=1) (z:=0) rfl (by simp[ht]) (zAE cs)]
    all_goals exact⟨_,rfl⟩
end
end Go.Ev
