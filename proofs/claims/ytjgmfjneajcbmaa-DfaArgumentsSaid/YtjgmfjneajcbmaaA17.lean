/- Functions of the program, each with what it computes; no further conditions. -/
import Derived.Test.YtjgmfjneajcbmaaA16
import Derived.Test.YtjgmfjneajcbmaaA06
import Derived.Test.YtjgmfjneajcbmaaA13
import Derived.Test.YtjgmfjneajcbmaaA12
import Derived.Test.YtjgmfjneajcbmaaA14
import Derived.Test.YtjgmfjneajcbmaaA10
import Derived.Test.YtjgmfjneajcbmaaA15
set_option linter.unusedVariables false
set_option linter.unusedSimpArgs false
namespace Go.Ev
variable {caps top:Int} {t:List Int} {fuel:Int}
theorem seq_run {g1 g2:Goal} {i n1 n2:Nat} (hi:i≤t.length) (h1:RT caps top t fuel g1 i n1) (h2:RT caps top t fuel g2 i n2) {c:Caps} {s:SS} (hg1:GG caps top t.length s.steps g1) (hg2:GG caps top t.length s.steps g2)
  (hc:c.length≤1000) (hs:SPre fuel s) (hx:(s.ends.length:Int)≤256 * s.steps - 256) :
  ∃ d b s',orR (runG t fuel d g1 i c s) (runG t fuel d g2 i c)=some (b,s')∧(b=false→s'.steps=s.steps+(n1+n2:Nat)):=by
 obtain⟨d1,b1,s1,e1,q1,m1⟩:=h1 c s hg1 hc hs
 cases b1 with
 | true=>exact⟨d1,true,s1,by rw[e1];rfl,fun h=>by cases h⟩
 | false=>
   obtain⟨d2,b2,s2,e2,q2,m2⟩:=h2 c s1 (hg2.mono q1.st) hc (q1.pre hs hx)
   refine⟨max d1 d2,b2,s2,?_,fun h=>?_⟩
   ·rw[runG_le t fuel (Nat.le_max_left d1 d2) _ _ _ _ _ e1]
    exact runG_le t fuel (Nat.le_max_right d1 d2) _ _ _ _ _ e2
   ·have a:=m1 rfl
    have b:=m2 h
    omega
def RTRep (caps top:Int) (t:List Int) (fuel:Int) (re:Re) (k:Int) (next:Goal) (i m:Nat):Prop:=
 ∀(c:Caps) (s:SS),0≤k∧k≤s.steps→GG caps top t.length s.steps next→c.length≤1000→SPre fuel s →
  ∃ d b s',repR fuel (runG t fuel d) re k next i c s=some (b,s')∧(b=false→s'.steps=s.steps+m)
theorem repR_run {re kid:Re} (h:RGood caps top re) (ho:re.op=4) (hkid:re.kids=[kid]) (hgk:RGood caps top kid) {next:Goal} {κ:Nat→Nat}
  (hpos:∀ i,i≤t.length→∀ j∈outs t kid i,i < j∧j≤t.length)
  (hK:∀(nx:Goal) (i:Nat) (κ':Nat→Nat),i≤t.length→(∀ j∈outs t kid i,RT caps top t fuel nx j (κ' j))→RT caps top t fuel (.mk 0 kid 0 0 nx) i (costR t kid i+((outs t kid i).map κ').sum)) :
  ∀(n:Nat) (k:Int) (i:Nat),i≤t.length→t.length+1 - i≤n→(∀ j∈repO (outs t kid) re.mn re.mx re.md n k i,RT caps top t fuel next j (κ j)) →
   RTRep caps top t fuel re k next i (repC (outs t kid) (costR t kid) re.mn re.mx n k i+((repO (outs t kid) re.mn re.mx re.md n k i).map κ).sum)
 | 0,k,i,hi,hn,_=>by omega
 | n+1,k,i,hi,hn,hx=>by
   intro c s hk hg hc hs
   by_cases he:(stepS fuel s).empty=true
   ·exact⟨0,true,stepS fuel s,by unfold repR;simp only;rw[if_pos he],fun h=>by cases h⟩
   obtain⟨p1,p2⟩:=step_false hs (by simpa using he)
   have hst:(stepS fuel s).steps=s.steps+1:=rfl
   have hg1:=hg.mono (show s.steps≤(stepS fuel s).steps by omega)
   have hon:=once_good (next:=next) (i:=i) (L:=t.length) (steps:=(stepS fuel s).steps) h hgk ho (k:=k) ⟨hk.1,by omega⟩ ⟨by omega,by omega⟩ hg1
   have once:(∀ j∈(outs t kid i).flatMap (repO (outs t kid) re.mn re.mx re.md n (k+1)),RT caps top t fuel next j (κ j)) →
     RT caps top t fuel (.mk 0 kid 0 0 (.mk 2 re k i next)) i (costR t kid i+((outs t kid i).map (repC (outs t kid) (costR t kid) re.mn re.mx n (k+1))).sum+(((outs t kid i).flatMap (repO (outs t kid) re.mn re.mx re.md n (k+1))).map κ).sum):=by
    intro hf
    rw[sum_flatMap,Nat.add_assoc,← sum_add]
    refine hK _ i _ hi fun j hj=>?_
    have hij:=hpos i hi j hj
    refine RT.of hij.2 fun c s hg hc hs=>?_
    obtain⟨g1,g2,g3,g4⟩:=hg
    obtain⟨d,b,s',e,m⟩:=repR_run h ho hkid hgk hpos hK n (k+1) j hij.2 (by omega) (fun q hq=>hf q (List.mem_flatMap.2 ⟨j,hj,hq⟩)) c s (by omega) g4 hc hs
    refine⟨d+2,b,s',?_,m⟩
    rw[runG,if_neg (by decide),if_pos rfl,if_neg (by omega),runG,if_pos rfl]
    exact e
   rw[repO]at hx ⊢
   rw[repC]
   by_cases hm:k < re.mn
   ·rw[if_pos hm]at hx ⊢
    rw[if_pos (.inl hm)]
    obtain⟨d,b,s',e,q,m⟩:=once hx c _ hon hc p1
    refine⟨d,b,s',?_,fun hb=>?_⟩
    ·unfold repR;simp only;rw[if_neg he,hkid];simp only;rw[if_pos hm];exact e
    ·have:=m hb;omega
   ·rw[if_neg hm]at hx ⊢
    by_cases hM:re.mx = -1∨k < re.mx
    ·have hmore:(decide (re.mx = -1) || decide (k < re.mx))=true:=by simpa using hM
     rw[if_pos (.inr hM)]
     simp only[if_pos hM]at hx ⊢
     by_cases hd:re.md=1
     ·rw[if_pos hd]at hx ⊢
      obtain⟨d,b,s',e,m⟩:=seq_run hi (hx i (by simp)) (once fun j hj=>hx j (List.mem_cons_of_mem _ hj)) hg1 hon hc p1 (by omega)
      refine⟨d,b,s',?_,fun hb=>?_⟩
      ·unfold repR;simp only;rw[if_neg he,hkid];simp only;rw[if_neg hm,if_pos hd];simp only[hmore,if_true];exact e
      ·have:=m hb
       simp only[List.map_cons,List.sum_cons]
       omega
     ·rw[if_neg hd]at hx ⊢
      obtain⟨d,b,s',e,m⟩:=seq_run hi (once fun j hj=>hx j (List.mem_append_left _ hj)) (hx i (by simp)) hon hg1 hc p1 (by omega)
      refine⟨d,b,s',?_,fun hb=>?_⟩
      ·unfold repR;simp only;rw[if_neg he,hkid];simp only;rw[if_neg hm,if_neg hd];simp only[hmore,if_true];exact e
      ·have:=m hb
       simp only[List.map_append,List.sum_append,List.map_cons,List.map_nil,List.sum_cons,List.sum_nil]
       omega
    ·have hmore:(decide (re.mx = -1) || decide (k < re.mx))=false:=by
      simp only[Bool.or_eq_false_iff,decide_eq_false_iff_not];omega
     rw[if_neg (by omega)]
     simp only[if_neg hM]at hx ⊢
     have hO:(if re.md=1 then [i] else []++[i])=[i]:=by split<;>rfl
     rw[hO]at hx ⊢
     obtain⟨d,b,s',e,q,m⟩:=hx i (by simp) c _ hg1 hc p1
     refine⟨d,b,s',?_,fun hb=>?_⟩
     ·unfold repR;simp only;rw[if_neg he,hkid];simp only;rw[if_neg hm];simp only[hmore]
      split
      ·rw[e];cases b with
       | true=>rfl
       | false=>rfl
      ·exact e
     ·have:=m hb
      simp only[List.map_cons,List.map_nil,List.sum_cons,List.sum_nil]
      omega
mutual
def lpG:Re→Bool
 | .mk op set kids mn mx md n neg=>!(decide (op=4) && nullHd kids) && lpL kids
def lpL:List Re→Bool
 | []=>true
 | k::ks=>lpG k && lpL ks
end
mutual
theorem re_run (caps top:Int) (t:List Int) (fuel:Int):∀ r:Re,RGood caps top r→lpG r=true→∀(k fr:Int) (next:Goal) (i:Nat) (κ:Nat→Nat),i≤t.length →
  (∀ j∈outs t r i,RT caps top t fuel next j (κ j))→RT caps top t fuel (.mk 0 r k fr next) i (costR t r i+((outs t r i).map κ).sum)
 | .mk op set kids mn mx md n neg,hr,hcp,k,fr,next,i,κ,hi,hx=>by
   have hkids:∀ k∈kids,RGood caps top k:=hr.kids
   have hC:=fun h next κ=>cat_run caps top t fuel kids hkids h next i κ hi
   have hA:=fun h next κ=>alt_run caps top t fuel kids hkids h next i κ hi
   have hH:=fun h next i κ hi=>hd_run caps top t fuel kids hkids h next i κ hi
   have hop:=hr.good.op
   have hlen:=hr.len
   rw[lpG,Bool.and_eq_true]at hcp
   obtain⟨hcp0,hcp⟩:=hcp
   refine RT.of hi fun c s hg hc hs=>?_
   obtain⟨g1,g2,g3,g4⟩:=hg
   by_cases h4:op=4
   ·subst h4
    have hnl:nullHd kids=false:=by simpa using hcp0
    obtain⟨kid,hkid,hgk⟩:=rep_kid hr rfl
    simp only[Re.kids]at hkid
    subst hkid
    have ho:∀ i,outs t (.mk 4 set [kid] mn mx md n neg) i=repO (outs t kid) mn mx md (t.length+1 - i) 0 i:=fun i=>by
     rw[outs,if_neg (by decide),if_neg (by decide),if_neg (by decide),if_pos rfl]
     congr 1
    have hcst:∀ i,costR t (.mk 4 set [kid] mn mx md n neg) i=repC (outs t kid) (costR t kid) mn mx (t.length+1 - i) 0 i:=fun i=>by
     rw[costR,if_neg (by decide),if_neg (by decide),if_pos rfl]
     congr 1
    rw[ho]at hx
    rw[ho,hcst]
    rw[lpL,Bool.and_eq_true]at hcp
    obtain⟨d,b,s',e,m⟩:=repR_run (κ:=κ) hr rfl rfl hgk (fun i hi j hj=>⟨outs_pos t kid i (by rw[nullHd]at hnl;exact hnl) hgk.good.cod hi j hj,(outs_in t kid i hi j hj).2⟩)
     (fun nx i κ' hi h=>hH (by rw[lpL,lpL,hcp.1];rfl) nx i κ' hi h) (t.length+1 - i) 0 i hi (Nat.le_refl _) hx c s ⟨Int.le_refl _,hs.st.1⟩ g4 hc hs
    refine⟨d+1,b,s',?_,m⟩
    rw[runG,if_neg (by decide),if_neg (by decide),if_neg (by decide),nodeR,if_pos (by rfl)]
    exact e
   ·by_cases he:(stepS fuel s).empty=true
    ·refine⟨1,true,stepS fuel s,?_,fun h=>by cases h⟩
     rw[runG,if_neg (by decide),if_neg (by decide),if_neg (by decide),nodeR,if_neg (by exact h4)]
     simp only
     rw[if_pos he]
    ·obtain⟨p1,p2⟩:=step_false hs (by simpa using he)
     have hst:(stepS fuel s).steps=s.steps+1:=rfl
     have hg1:=g4.mono (show s.steps≤(stepS fuel s).steps by omega)
     rcases hop with rfl|rfl|rfl|rfl|rfl|rfl|rfl
     ·have ho:outs t (.mk 0 set kids mn mx md n neg) i=[i]:=by rw[outs];simp
      have hcst:costR t (.mk 0 set kids mn mx md n neg) i=1:=by rw[costR];simp
      rw[ho]at hx;rw[ho,hcst]
      obtain⟨d,b,s',e,q,m⟩:=hx i (by simp) c _ hg1 hc p1
      refine⟨d+1,b,s',?_,fun hb=>by have:=m hb;simp only[List.map_cons,List.map_nil,List.sum_cons,List.sum_nil];omega⟩
      simp[runG,nodeR,Re.op,he,e]
     ·have hcst:costR t (.mk 1 set kids mn mx md n neg) i=1:=by rw[costR];simp
      rw[outs,if_pos rfl]at hx ⊢
      rw[hcst]
      cases hti:t[i]? with
      | none=>
        refine⟨1,false,stepS fuel s,?_,fun _=>by simp;omega⟩
        simp[runG,nodeR,Re.op,he,hti]
      | some x=>
        rw[hti]at hx
        by_cases hh:hasSpan set x=true
        ·simp only[if_pos hh]at hx ⊢
         obtain⟨d,b,s',e,q,m⟩:=hx (i+1) (by simp) c _ hg1 hc p1
         refine⟨d+1,b,s',?_,fun hb=>by have:=m hb;simp only[List.map_cons,List.map_nil,List.sum_cons,List.sum_nil];omega⟩
         simp only[Int.natCast_add,Int.natCast_one]at e
         simp[runG,nodeR,Re.op,Re.set,he,hti,hh,e]
        ·simp only[if_neg hh]at hx ⊢
         refine⟨1,false,stepS fuel s,?_,fun _=>by simp;omega⟩
         simp[runG,nodeR,Re.op,Re.set,he,hti,hh]
     ·have ho:outs t (.mk 2 set kids mn mx md n neg) i=outsC t kids i:=by rw[outs];simp
      have hcst:costR t (.mk 2 set kids mn mx md n neg) i=1+costRC t kids i:=by rw[costR];simp
      rw[ho]at hx;rw[ho,hcst]
      obtain⟨d,b,s',e,q,m⟩:=hC hcp next κ hx c _ (GG.cat (by omega) hg1 hkids) hc p1
      refine⟨d+1,b,s',?_,fun hb=>by have:=m hb;omega⟩
      simp[runG,nodeR,Re.op,Re.kids,he,e]
     ·have ho:outs t (.mk 3 set kids mn mx md n neg) i=outsA t kids i:=by rw[outs];simp
      have hcst:costR t (.mk 3 set kids mn mx md n neg) i=1+costRA t kids i:=by rw[costR];simp
      rw[ho]at hx;rw[ho,hcst]
      simp only[Re.kids]at hlen
      obtain⟨d,b,s',e,m⟩:=hA hcp next κ hx c _ hg1 hc p1 (by omega)
      refine⟨d+1,b,s',?_,fun hb=>by have:=m hb;omega⟩
      simp[runG,nodeR,Re.op,Re.kids,he,e]
     ·exact absurd rfl h4
     ·have ho:outs t (.mk 5 set kids mn mx md n neg) i=outsH t kids i:=by rw[outs];simp
      have hcst:costR t (.mk 5 set kids mn mx md n neg) i=1+costRH t kids i:=by rw[costR];simp
      rw[ho]at hx;rw[ho,hcst]
      obtain⟨kid,hkid,hgk⟩:=cap_kid hr rfl
      simp only[Re.kids]at hkid
      subst hkid
      have e1:outsH t [kid] i=outs t kid i:=by rw[outsH]
      have e2:costRH t [kid] i=costR t kid i:=by rw[costRH]
      rw[e1]at hx
      rw[e1,e2]
      obtain⟨d,b,s',e,q,m⟩:=hH hcp (.mk 3 (.mk 5 set [kid] mn mx md n neg) 0 i next) i κ hi (fun j hj=>by
       have hj2:=(outs_in t kid i hi j hj).2
       refine RT.of hj2 fun c s hg hc hs=>?_
       obtain⟨g1,g2,g3,g4⟩:=hg
       obtain⟨d,b,s',e,q,m⟩:=hx j hj (withI c n i j) s g4 (by rw[with_len];exact hc) hs
       refine⟨d+1,b,s',?_,m⟩
       rw[runG,if_neg (by decide),if_neg (by decide),if_pos rfl]
       exact e) c _ ⟨hgk,.inl rfl,⟨Int.le_refl _,by omega⟩,hr,.inr (.inr (.inr ⟨rfl,rfl⟩)),⟨by omega,by omega⟩,hg1⟩ hc p1
      refine⟨d+1,b,s',?_,fun hb=>by have:=m hb;omega⟩
      rw[runG,if_neg (by decide),if_neg (by decide),if_neg (by decide),nodeR,if_neg (by exact h4)]
      simp only
      rw[if_neg he]
      simp only[Re.op,Re.kids,show ¬(5:Int)=1 by decide,show ¬(5:Int)=2 by decide,show ¬(5:Int)=3 by decide,if_false,if_true]
      exact e
     ·have hcst:costR t (.mk 11 set kids mn mx md n neg) i=1:=by rw[costR];simp
      have ho:outs t (.mk 11 set kids mn mx md n neg) i=if assertI n (befS t i) t[i]?=true then [i] else []:=by rw[outs];simp
      rw[ho]at hx;rw[ho,hcst]
      by_cases hh:assertI n (befS t i) t[i]?=true
      ·simp only[if_pos hh]at hx ⊢
       obtain⟨d,b,s',e,q,m⟩:=hx i (by simp) c _ hg1 hc p1
       refine⟨d+1,b,s',?_,fun hb=>by have:=m hb;simp only[List.map_cons,List.map_nil,List.sum_cons,List.sum_nil];omega⟩
       simp[runG,nodeR,Re.op,Re.n,he,hh,e]
      ·simp only[if_neg hh]at hx ⊢
       refine⟨1,false,stepS fuel s,?_,fun _=>by simp;omega⟩
       simp[runG,nodeR,Re.op,Re.n,he,hh]
theorem cat_run (caps top:Int) (t:List Int) (fuel:Int):∀ l:List Re,(∀ k∈l,RGood caps top k)→lpL l=true→∀(next:Goal) (i:Nat) (κ:Nat→Nat),i≤t.length →
  (∀ j∈outsC t l i,RT caps top t fuel next j (κ j))→RT caps top t fuel (catG next l) i (costRC t l i+((outsC t l i).map κ).sum)
 | [],_,_,next,i,κ,hi,hx=>by
   have:=hx i (by simp[outsC])
   simpa [outsC,costRC,catG] using this
 | k::ks,hr,hcp,next,i,κ,hi,hx=>by
   rw[lpL,Bool.and_eq_true]at hcp
   rw[outsC]at hx ⊢
   rw[costRC,sum_flatMap,Nat.add_assoc,← sum_add,catG]
   refine re_run caps top t fuel k (hr k (by simp)) hcp.1 0 0 _ i _ hi fun j hj=>?_
   exact cat_run caps top t fuel ks (fun q hq=>hr q (by simp[hq])) hcp.2 next j κ (outs_in t k i hi j hj).2 fun q hq=>hx q (List.mem_flatMap.2 ⟨j,hj,hq⟩)
theorem alt_run (caps top:Int) (t:List Int) (fuel:Int):∀ l:List Re,(∀ k∈l,RGood caps top k)→lpL l=true→∀(next:Goal) (i:Nat) (κ:Nat→Nat),i≤t.length →
  (∀ j∈outsA t l i,RT caps top t fuel next j (κ j))→∀(c:Caps) (s:SS),GG caps top t.length s.steps next→c.length≤1000→SPre fuel s→(s.ends.length:Int)+l.length≤256 * s.steps →
  ∃ d b s',altR (runG t fuel d) next i c l s=some (b,s')∧(b=false→s'.steps=s.steps+(costRA t l i+((outsA t l i).map κ).sum:Nat))
 | [],_,_,next,i,κ,hi,hx=>fun c s hg hc hs hsl=>⟨0,false,s,rfl,fun _=>by simp[costRA,outsA]⟩
 | k::ks,hr,hcp,next,i,κ,hi,hx=>fun c s hg hc hs hsl=>by
   rw[lpL,Bool.and_eq_true]at hcp
   rw[outsA]at hx ⊢
   rw[costRA]
   obtain⟨d1,b1,s1,e1,q1,m1⟩:=re_run caps top t fuel k (hr k (by simp)) hcp.1 0 0 next i κ hi (fun j hj=>hx j (List.mem_append_left _ hj)) c s ⟨hr k (by simp),.inl rfl,⟨Int.le_refl _,by omega⟩,hg⟩ hc hs
   cases b1 with
   | true=>exact⟨d1,true,s1,by rw[altR,e1];rfl,fun h=>by cases h⟩
   | false=>
     have a1:=q1.st
     have a2:=q1.fu rfl
     have a3:=q1.el
     have a4:=hs.st
     simp only[List.length_cons]at hsl
     obtain⟨d2,b2,s2,e2,m2⟩:=alt_run caps top t fuel ks (fun q hq=>hr q (by simp[hq])) hcp.2 next i κ hi (fun j hj=>hx j (List.mem_append_right _ hj)) c s1 (hg.mono a1) hc ⟨q1.eb.symm,⟨by omega,a2⟩,q1.cl,by omega⟩ (by omega)
     refine⟨max d1 d2,b2,s2,?_,fun h=>?_⟩
     ·rw[altR,runG_le t fuel (Nat.le_max_left d1 d2) _ _ _ _ _ e1]
      exact altR_mono (runG_le t fuel (Nat.le_max_right d1 d2)) e2
     ·have a:=m1 rfl
      have b:=m2 h
      simp only[List.map_append,List.sum_append]
      omega
theorem hd_run (caps top:Int) (t:List Int) (fuel:Int):∀ l:List Re,(∀ k∈l,RGood caps top k)→lpL l=true→∀(next:Goal) (i:Nat) (κ:Nat→Nat),i≤t.length →
  match l with
  | []=>True
  | k::_=>(∀ j∈outs t k i,RT caps top t fuel next j (κ j))→RT caps top t fuel (.mk 0 k 0 0 next) i (costR t k i+((outs t k i).map κ).sum)
 | [],_,_,_,_,_,_=>trivial
 | k::ks,hr,hcp,next,i,κ,hi=>fun hx=>by
   rw[lpL,Bool.and_eq_true]at hcp
   exact re_run caps top t fuel k (hr k (by simp)) hcp.1 0 0 next i κ hi hx
end
end Go.Ev
namespace Go.Ev
attribute [local go_sem] evBin AV.cells frzB List.length_append List.map_append tySzE List.head?_drop Nat.mul_one sameAt_zero sameAt_two sameAt_three sameAt_four sameAt_five room_ok
section
attribute [local go_sem] evAppend
open Go.Proofs Go.RowKit Go.IntWalk
set_option maxRecDepth 100000
set_option maxHeartbeats 8000000
structure Pat where
 re:Re
 caps:Int
 runes:Bool
abbrev patC (p:Pat):List AV:=reC p.re++[I p.caps,.bool p.runes]
abbrev patAV (p:Pat):AV:=.agg (patC p)
theorem plain_patC (p:Pat):AV.plainL (patC p)=true:=by
 rw[plainL_iff]
 intro x hx
 rcases List.mem_append.1 hx with h|h
 ·exact(plainL_iff _).1 (plain_reC p.re) x h
 ·simp at h;rcases h with rfl|rfl<;>rfl
def topI (r:Bool):Int:=if r then 1114111 else 255
theorem topI_le (r:Bool):topI r≤1114111:=by cases r<;>simp[topI]
def validP (p:Pat):Int:=if 256 < p.re.size∨24 < p.re.depth then 4 else if p.caps < 0∨9 < p.caps∨wholeG p.caps (topI p.runes) p.re=false then 1 else 0
end
section
attribute [local go_sem] evAppend
open Go.Proofs Go.RowKit Go.IntWalk
set_option maxRecDepth 100000
set_option maxHeartbeats 8000000
theorem f150 (op:Int) (H:List MB):call Try.prog pol1 78 [I op] H =
  some (.tup [I (if op=2∨op=3 then 2 else if op=4∨op=5∨op=7∨op=8∨op=9 then 1 else if op=10 then 2 else 0),I (if op=2∨op=3 then -1 else if op=4∨op=5∨op=7∨op=8∨op=9 then 1 else if op=10 then 2 else 0)],H):=by
 refine call_run Try.func78 rfl rfl rfl rfl rfl rfl (fun _=>rfl) rfl rfl ?_ H
 by_cases h1:op=2∨op=3
 ·rw[if_pos h1,if_pos h1]
  rcases h1 with rfl|rfl
  all_goals (
   simp +contextual (disch:=omega) only[Try.f78,dd78,go_sem,simprocAttr,mu78,↓wrap_up,↓wrap_down,↓wrap_pred,↓wrap_sub_nat]
   exact fzEq rfl rfl)
 ·rw[if_neg h1,if_neg h1]
  by_cases h2:op=4∨op=5∨op=7∨op=8∨op=9
  ·rw[if_pos h2]
   rcases h2 with rfl|rfl|rfl|rfl|rfl
   all_goals (
    simp +contextual (disch:=omega) only[Try.f78,dd78,go_sem,simprocAttr,mu78,↓wrap_up,↓wrap_down,↓wrap_pred,↓wrap_sub_nat]
    exact fzEq rfl rfl)
  ·rw[if_neg h2]
   by_cases h3:op=10
   ·rw[if_pos h3]
    subst h3
    simp +contextual (disch:=omega) only[Try.f78,dd78,go_sem,simprocAttr,mu78,↓wrap_up,↓wrap_down,↓wrap_pred,↓wrap_sub_nat]
    exact fzEq rfl rfl
   ·rw[if_neg h3]
    simp +contextual (disch:=omega) only[Try.f78,dd78,go_sem,simprocAttr,mu78,↓wrap_up,↓wrap_down,↓wrap_pred,↓wrap_sub_nat]
    exact fzEq rfl rfl
theorem f151 (l:List (Int×Int)) (top:Int) (ht:top≤1114111) (hl:l.length≤1000000) (H:List MB):call Try.prog pol1 79 [.sl false (l.map spanAV),I top] H=some (.bool (spansG l top),H):=by
 refine call_run Try.func79 rfl rfl rfl rfl rfl rfl (fun _=>rfl) (by simp[AV.plain,AV.plainL,plain_span]) rfl ?_ H
 by_cases h64:64 < l.length
 ·rw[spansG_long h64]
  simp +contextual (disch:=omega) only[Try.f79,dd79,go_sem,simprocAttr,mu79,↓wrap_up,↓wrap_down,↓wrap_pred,↓wrap_sub_nat]
  exact fzEq rfl rfl
 ·simp +contextual (disch:=omega) only[Try.f79,dd79,go_sem,simprocAttr,mu79,↓wrap_up,↓wrap_down,↓wrap_pred,↓wrap_sub_nat]
  refine W_count (M:=(mskOf (pol1.mask 79) (pol1.gc 79) (pol1.acts 79) 0 4)) rfl l.length (fun i=>(⟨62,[(5,I i),(1,I top),(0,.sl false (l.map spanAV))],[]⟩:St)) (fun i=>∀ k,k < i→badS l top k=false) ?_ ?_ (fun k h=>by omega) _ (by first|rfl|(refine prep_to (n:=0) (m:=⟨some [5,1,0],some 0,[]⟩) rfl rfl ?_ ?_ ?_<;>first|rfl|(simp[keepT,AV.underL,AV.under,MB.under,underL_plain,under_plain,underL_append,plain_ints,plain_span,plain_ins,plain_prg,-List.map_take,-List.map_replicate,-List.map_set];done)|(simp[keepT,AV.underL,AV.under,MB.under,underL_plain,under_plain,underL_append,plain_ints,plain_span,plain_ins,plain_prg,-List.map_take,-List.map_replicate,-List.map_set];omega)))
  ·intro i hlt hg
   obtain⟨p,hp⟩:∃ p,l[i]?=some p:=⟨_,List.getElem?_eq_getElem hlt⟩
   have ext:badS l top i=false→∀ k,k < i+1→badS l top k=false:=fun h k hk=>by
    rcases Nat.lt_or_ge k i with h1|h1
    ·exact hg k h1
    ·obtain rfl:k=i:=by omega
     exact h
   by_cases hgd:p.1 < 0∨p.2 < p.1∨top < p.2
   ·rw[spansG_bad hlt (badS_lt hp hgd)]
    have hgd':p.1 < 0∨(¬ p.1 < 0∧p.2 < p.1)∨(¬ p.1 < 0∧¬ p.2 < p.1∧top < p.2):=by omega
    rcases hgd' with h|⟨h,h'⟩|⟨h,h',h''⟩
    all_goals (
     simp +contextual (disch:=omega) only[Try.f79,dd79,go_sem,simprocAttr,mu79,↓wrap_up,↓wrap_down,↓wrap_pred,↓wrap_sub_nat,hp,spanAV]
     repeat' (first|intro _|apply And.intro|(unfold dOk;kernel_rfl)|exact St.beq_refl _|(show altO _ _ _ _=true;kernel_rfl)|(show (_ || _)=true;kernel_rfl)|(show (_ && _)=true;kernel_rfl))
     all_goals exact fzEq rfl rfl)
   ·rcases i with _|i
    ·simp +contextual (disch:=omega) only[Try.f79,dd79,go_sem,simprocAttr,mu79,↓wrap_up,↓wrap_down,↓wrap_pred,↓wrap_sub_nat,hp,spanAV]
     repeat' (first|intro _|apply And.intro|(unfold dOk;kernel_rfl)|exact St.beq_refl _|(show altO _ _ _ _=true;kernel_rfl)|(show (_ || _)=true;kernel_rfl)|(show (_ && _)=true;kernel_rfl))
     ·exact ext (badS_zero hp hgd) _ ‹_›
     ·exact(by first|rfl|(refine prep_to (n:=0) (m:=⟨some [5,1,0],some 0,[]⟩) rfl rfl ?_ ?_ ?_<;>first|rfl|(simp[keepT,AV.underL,AV.under,MB.under,underL_plain,under_plain,underL_append,plain_ints,plain_span,plain_ins,plain_prg,-List.map_take,-List.map_replicate,-List.map_set];done)|(simp[keepT,AV.underL,AV.under,MB.under,underL_plain,under_plain,underL_append,plain_ints,plain_span,plain_ins,plain_prg,-List.map_take,-List.map_replicate,-List.map_set];omega)))
    ·obtain⟨q,hq⟩:∃ q,l[i]?=some q:=⟨_,List.getElem?_eq_getElem (by omega)⟩
     have hqb:=badS_hi hq (hg i (by omega))
     have hb:=badS_succ hp hq hgd
     by_cases h2:p.1 < q.2+2
     ·rw[spansG_bad hlt (by rw[hb];simp[h2])]
      simp +contextual (disch:=omega) only[Try.f79,dd79,go_sem,simprocAttr,mu79,↓wrap_up,↓wrap_down,↓wrap_pred,↓wrap_sub_nat,hp,hq,spanAV]
      repeat' (first|intro _|apply And.intro|(unfold dOk;kernel_rfl)|exact St.beq_refl _|(show altO _ _ _ _=true;kernel_rfl)|(show (_ || _)=true;kernel_rfl)|(show (_ && _)=true;kernel_rfl))
      all_goals exact fzEq rfl rfl
     ·simp +contextual (disch:=omega) only[Try.f79,dd79,go_sem,simprocAttr,mu79,↓wrap_up,↓wrap_down,↓wrap_pred,↓wrap_sub_nat,hp,hq,spanAV]
      repeat' (first|intro _|apply And.intro|(unfold dOk;kernel_rfl)|exact St.beq_refl _|(show altO _ _ _ _=true;kernel_rfl)|(show (_ || _)=true;kernel_rfl)|(show (_ && _)=true;kernel_rfl))
      ·exact ext (by rw[hb];simp[h2]) _ ‹_›
      ·exact(by first|rfl|(refine prep_to (n:=0) (m:=⟨some [5,1,0],some 0,[]⟩) rfl rfl ?_ ?_ ?_<;>first|rfl|(simp[keepT,AV.underL,AV.under,MB.under,underL_plain,under_plain,underL_append,plain_ints,plain_span,plain_ins,plain_prg,-List.map_take,-List.map_replicate,-List.map_set];done)|(simp[keepT,AV.underL,AV.under,MB.under,underL_plain,under_plain,underL_append,plain_ints,plain_span,plain_ins,plain_prg,-List.map_take,-List.map_replicate,-List.map_set];omega)))
  ·intro hg
   rw[spansG_good (by omega) hg]
   simp +contextual (disch:=omega) only[Try.f79,dd79,go_sem,simprocAttr,mu79,↓wrap_up,↓wrap_down,↓wrap_pred,↓wrap_sub_nat]
   exact fzEq rfl rfl
theorem f135 (caps top:Int) (ht:top≤1114111) (op:Int) (set:List (Int×Int)) (kids:List Re) (mn mx md n:Int) (neg:Bool) (hs:set.length≤1000000) (hk:kids.length≤1000000) (H:List MB) :
  call Try.prog pol1 61 [.agg (nodeL op set kids mn mx md n neg),I caps,I top] H=some (.bool (formedG caps top (.mk op set kids mn mx md n neg)),H):=by
 refine call_run Try.func61 rfl rfl rfl rfl rfl rfl (fun _=>rfl) (by simp[AV.plain,AV.plainL,plain_span,plain_kids]) rfl ?_ H
 have h151:=f151 set top ht hs
 have h150:=f150 op
 by_cases h0:op < 0∨11 < op
 ·have e:formedG caps top (.mk op set kids mn mx md n neg)=false:=by
   have:¬ (0≤op∧op≤11):=by omega
   simp only[formedG,Bool.and_eq_false_iff,decide_eq_false_iff_not]
   omega
  rw[e]
  have h0':op < 0∨(¬ op < 0∧11 < op):=by omega
  rcases h0' with h|⟨h,h'⟩
  all_goals (
   simp +contextual (disch:=omega) only[Try.f61,dd61,go_sem,simprocAttr,mu61,↓wrap_up,↓wrap_down,↓wrap_pred,↓wrap_sub_nat,h150]
   repeat' (first|intro _|apply And.intro|(unfold dOk;kernel_rfl)|exact St.beq_refl _|(show altO _ _ _ _=true;kernel_rfl)|(show (_ || _)=true;kernel_rfl)|(show (_ && _)=true;kernel_rfl))
   all_goals exact fzEq rfl rfl)
 have hop:op=1∨op=4∨op=0∨op=2∨op=3∨op=5∨op=6∨op=7∨op=8∨op=9∨op=10∨op=11:=by omega
 clear h0
 rcases hop with rfl|rfl|rfl|rfl|rfl|rfl|rfl|rfl|rfl|rfl|rfl|rfl
 ·cases hsp:spansG set top
  all_goals (
   rw[hsp]at h151
   simp at h150
   cases neg <;>
   simp +contextual (disch:=omega) only[Try.f61,dd61,go_sem,simprocAttr,mu61,↓wrap_up,↓wrap_down,↓wrap_pred,↓wrap_sub_nat,h150,h151]
   repeat' (first|intro _|apply And.intro|(unfold dOk;kernel_rfl)|exact St.beq_refl _|(show altO _ _ _ _=true;kernel_rfl)|(show (_ || _)=true;kernel_rfl)|(show (_ && _)=true;kernel_rfl))
   all_goals (clear h151 h150;refine fzEq rfl (congrArg AV.bool ?_);first|(simp_all [formedG,kidsG,repG,-List.length_eq_zero_iff];done)|(simp_all [formedG,kidsG,repG,-List.length_eq_zero_iff];omega)))
 all_goals (
  simp at h150
  cases neg <;>
  simp +contextual (disch:=omega) only[Try.f61,dd61,go_sem,simprocAttr,mu61,↓wrap_up,↓wrap_down,↓wrap_pred,↓wrap_sub_nat,h150]
  repeat' (first|intro _|apply And.intro|(unfold dOk;kernel_rfl)|exact St.beq_refl _|(show altO _ _ _ _=true;kernel_rfl)|(show (_ || _)=true;kernel_rfl)|(show (_ && _)=true;kernel_rfl))
  all_goals (clear h151 h150;refine fzEq rfl (congrArg AV.bool ?_);first|(simp_all [formedG,kidsG,repG,-List.length_eq_zero_iff];done)|(simp_all [formedG,kidsG,repG,-List.length_eq_zero_iff];omega)))
end
section
attribute [local go_sem] evAppend
open Go.Proofs Go.RowKit Go.IntWalk
set_option maxRecDepth 100000
set_option maxHeartbeats 8000000
theorem f114 (caps top:Int) (ht:top≤1114111):∀(N:Nat) (r:Re),r.wt≤N→r.wt≤1000000→∀ H,call Try.prog pol1 43 [reAV r,I caps,I top] H=some (.bool (wholeG caps top r),H)
 | 0,r,h,_,_=>by have:=r.wt_pos;omega
 | N+1,.mk op set kids mn mx md n neg,h,hN,H=>by
   have hkl:=Re.wtL_len kids
   have hwt:1+set.length+Re.wtL kids=(Re.mk op set kids mn mx md n neg).wt:=by simp[Re.wt]
   have ih:=fun k (hk:k∈kids)=>f114 caps top ht N k (by have:=Re.wtL_mem hk;omega) (by have:=Re.wtL_mem hk;omega)
   have h135:=f135 caps top ht op set kids mn mx md n neg (by omega) (by omega)
   rw[show reAV (.mk op set kids mn mx md n neg)=.agg (nodeL op set kids mn mx md n neg) from congrArg AV.agg reC_mk]
   refine call_run Try.func43 rfl rfl rfl rfl rfl rfl (fun _=>rfl) (by simp[AV.plain,AV.plainL,plain_span,plain_kids]) rfl ?_ H
   rw[wholeG]
   cases hfg:formedG caps top (.mk op set kids mn mx md n neg) with
   | false=>
     rw[hfg]at h135
     simp +contextual (disch:=omega) only[Try.f43,dd43,go_sem,simprocAttr,mu43,↓wrap_up,↓wrap_down,↓wrap_pred,↓wrap_sub_nat,h135]
     exact fzEq rfl rfl
   | true=>
     rw[hfg]at h135
     simp +contextual (disch:=omega) only[Try.f43,dd43,go_sem,simprocAttr,mu43,↓wrap_up,↓wrap_down,↓wrap_pred,↓wrap_sub_nat,h135]
     refine W_count (M:=(mskOf (pol1.mask 43) (pol1.gc 43) (pol1.acts 43) 0 4)) rfl kids.length (fun i=>(⟨29,[(7,I i),(3,.rf 0 1 0 0),(2,I top),(1,I caps)],[.row 8 [.agg (nodeL op set kids mn mx md n neg)] 0]⟩:St)) (fun i=>wholeL caps top (kids.take i)=true) ?_ ?_ (by simp[wholeL]) _ (by first|rfl|(refine prep_to (n:=1) (m:=⟨some [7,3,2,1],some 1,[]⟩) rfl rfl ?_ ?_ ?_<;>first|rfl|(simp[keepT,AV.underL,AV.under,MB.under,underL_plain,under_plain,underL_append,plain_ints,plain_span,plain_ins,plain_prg,-List.map_take,-List.map_replicate,-List.map_set,plain_kids];done)|(simp[keepT,AV.underL,AV.under,MB.under,underL_plain,under_plain,underL_append,plain_ints,plain_span,plain_ins,plain_prg,-List.map_take,-List.map_replicate,-List.map_set,plain_kids];omega)))
     ·intro i hi hg
      obtain⟨k,hk⟩:∃ k,kids[i]?=some k:=⟨_,List.getElem?_eq_getElem hi⟩
      have ihk:=ih k (List.mem_of_getElem? hk)
      have hl8:=reC_len k
      have ht8:=reC_take k
      have e3:=wholeL_take (caps:=caps) (top:=top) hk
      cases hn:wholeG caps top k with
      | false=>
        rw[hn]at ihk
        have hf:wholeL caps top kids=false:=by
         rw[Bool.eq_false_iff]
         intro hw
         rw[wholeL_iff]at hw
         have:=hw k (List.mem_of_getElem? hk)
         rw[hn]at this;cases this
        rw[hf]
        simp +contextual (disch:=omega) only[Try.f43,dd43,go_sem,simprocAttr,mu43,↓wrap_up,↓wrap_down,↓wrap_pred,↓wrap_sub_nat,hk,ihk,hl8,ht8]
        exact fzEq rfl rfl
      | true=>
        rw[hn]at ihk
        rw[e3,hg,hn]
        simp +contextual (disch:=omega) only[Try.f43,dd43,go_sem,simprocAttr,mu43,↓wrap_up,↓wrap_down,↓wrap_pred,↓wrap_sub_nat,hk,ihk,hl8,ht8]
        exact(by first|rfl|(refine prep_to (n:=1) (m:=⟨some [7,3,2,1],some 1,[]⟩) rfl rfl ?_ ?_ ?_<;>first|rfl|(simp[keepT,AV.underL,AV.under,MB.under,underL_plain,under_plain,underL_append,plain_ints,plain_span,plain_ins,plain_prg,-List.map_take,-List.map_replicate,-List.map_set,plain_kids];done)|(simp[keepT,AV.underL,AV.under,MB.under,underL_plain,under_plain,underL_append,plain_ints,plain_span,plain_ins,plain_prg,-List.map_take,-List.map_replicate,-List.map_set,plain_kids];omega)))
     ·intro hg
      rw[List.take_length]at hg
      rw[hg]
      simp +contextual (disch:=omega) only[Try.f43,dd43,go_sem,simprocAttr,mu43,↓wrap_up,↓wrap_down,↓wrap_pred,↓wrap_sub_nat]
      exact fzEq rfl rfl
theorem f52 (p:Pat) (hw:p.re.wt≤1000000) (H:List MB):call Try.prog pol1 23 [patAV p] H=some (I (validP p),H):=by
 obtain⟨re,caps,runes⟩:=p
 simp only at hw
 refine call_run Try.func23 rfl rfl rfl rfl rfl rfl (fun _=>rfl) (by simp[AV.plainL,AV.plain];exact plain_patC _) rfl ?_ H
 have hl8:=reC_len re
 have hget8:(reC re++[I caps,.bool runes])[8]?=some (I caps):=by rw[List.getElem?_append_right (by omega),hl8];rfl
 have hget9:(reC re++[I caps,.bool runes])[9]?=some (.bool runes):=by rw[List.getElem?_append_right (by omega),hl8];rfl
 have htk8:∀ l,List.take 8 (reC re++l)=reC re:=fun l=>by
  rw[List.take_append_of_le_length (by omega)];exact List.take_of_length_le (by omega)
 have hall:=reC_ok re
 have h112:=f112 re.wt re (Nat.le_refl _) hw
 have h113:=f113 re.wt re (Nat.le_refl _) hw
 have h114:=f114 caps (topI runes) (topI_le runes) re.wt re (Nat.le_refl _) hw
 have hsw:=re.size_wt
 cases runes
 ·rw[show topI false=255 from rfl]at h114
  by_cases h1:256 < re.size
  ·rw[show validP ⟨re,caps,false⟩=4 from if_pos (.inl h1)]
   simp +contextual (disch:=omega) only[Try.f23,dd23,go_sem,simprocAttr,mu23,↓wrap_up,↓wrap_down,↓wrap_pred,↓wrap_sub_nat,hl8,hget8,hget9,h112,h113,hall,htk8,List.all_append]
   repeat' (first|intro _|apply And.intro|(unfold dOk;kernel_rfl)|exact St.beq_refl _|(show altO _ _ _ _=true;kernel_rfl)|(show (_ || _)=true;kernel_rfl)|(show (_ && _)=true;kernel_rfl))
   all_goals exact fzEq rfl rfl
  by_cases h2:24 < re.depth
  ·rw[show validP ⟨re,caps,false⟩=4 from if_pos (.inr h2)]
   simp +contextual (disch:=omega) only[Try.f23,dd23,go_sem,simprocAttr,mu23,↓wrap_up,↓wrap_down,↓wrap_pred,↓wrap_sub_nat,hl8,hget8,hget9,h112,h113,hall,htk8,List.all_append]
   repeat' (first|intro _|apply And.intro|(unfold dOk;kernel_rfl)|exact St.beq_refl _|(show altO _ _ _ _=true;kernel_rfl)|(show (_ || _)=true;kernel_rfl)|(show (_ && _)=true;kernel_rfl))
   all_goals exact fzEq rfl rfl
  have hno:¬ (256 < re.size∨24 < re.depth):=by omega
  have hcp:(caps < 0)∨(¬ caps < 0∧9 < caps)∨(¬ caps < 0∧¬ 9 < caps):=by omega
  rcases hcp with h3|⟨h3,h4⟩|⟨h3,h4⟩
  ·rw[show validP ⟨re,caps,false⟩=1 from(if_neg hno).trans (if_pos (.inl h3))]
   simp +contextual (disch:=omega) only[Try.f23,dd23,go_sem,simprocAttr,mu23,↓wrap_up,↓wrap_down,↓wrap_pred,↓wrap_sub_nat,hl8,hget8,hget9,h112,h113,hall,htk8,List.all_append]
   repeat' (first|intro _|apply And.intro|(unfold dOk;kernel_rfl)|exact St.beq_refl _|(show altO _ _ _ _=true;kernel_rfl)|(show (_ || _)=true;kernel_rfl)|(show (_ && _)=true;kernel_rfl))
   all_goals exact fzEq rfl rfl
  ·rw[show validP ⟨re,caps,false⟩=1 from(if_neg hno).trans (if_pos (.inr (.inl h4)))]
   simp +contextual (disch:=omega) only[Try.f23,dd23,go_sem,simprocAttr,mu23,↓wrap_up,↓wrap_down,↓wrap_pred,↓wrap_sub_nat,hl8,hget8,hget9,h112,h113,hall,htk8,List.all_append]
   repeat' (first|intro _|apply And.intro|(unfold dOk;kernel_rfl)|exact St.beq_refl _|(show altO _ _ _ _=true;kernel_rfl)|(show (_ || _)=true;kernel_rfl)|(show (_ && _)=true;kernel_rfl))
   all_goals exact fzEq rfl rfl
  ·cases hwg:wholeG caps 255 re with
   | true=>
     rw[hwg]at h114
     rw[show validP ⟨re,caps,false⟩=0 from(if_neg hno).trans (if_neg (by simp only[topI,Bool.false_eq_true,if_false,if_true,hwg];simp;omega))]
     simp +contextual (disch:=omega) only[Try.f23,dd23,go_sem,simprocAttr,mu23,↓wrap_up,↓wrap_down,↓wrap_pred,↓wrap_sub_nat,hl8,hget8,hget9,h112,h113,h114,hall,htk8,List.all_append]
     repeat' (first|intro _|apply And.intro|(unfold dOk;kernel_rfl)|exact St.beq_refl _|(show altO _ _ _ _=true;kernel_rfl)|(show (_ || _)=true;kernel_rfl)|(show (_ && _)=true;kernel_rfl))
     all_goals exact fzEq rfl rfl
   | false=>
     rw[hwg]at h114
     rw[show validP ⟨re,caps,false⟩=1 from(if_neg hno).trans (if_pos (.inr (.inr hwg)))]
     simp +contextual (disch:=omega) only[Try.f23,dd23,go_sem,simprocAttr,mu23,↓wrap_up,↓wrap_down,↓wrap_pred,↓wrap_sub_nat,hl8,hget8,hget9,h112,h113,h114,hall,htk8,List.all_append]
     repeat' (first|intro _|apply And.intro|(unfold dOk;kernel_rfl)|exact St.beq_refl _|(show altO _ _ _ _=true;kernel_rfl)|(show (_ || _)=true;kernel_rfl)|(show (_ && _)=true;kernel_rfl))
     all_goals exact fzEq rfl rfl
 ·rw[show topI true=1114111 from rfl]at h114
  by_cases h1:256 < re.size
  ·rw[show validP ⟨re,caps,true⟩=4 from if_pos (.inl h1)]
   simp +contextual (disch:=omega) only[Try.f23,dd23,go_sem,simprocAttr,mu23,↓wrap_up,↓wrap_down,↓wrap_pred,↓wrap_sub_nat,hl8,hget8,hget9,h112,h113,hall,htk8,List.all_append]
   repeat' (first|intro _|apply And.intro|(unfold dOk;kernel_rfl)|exact St.beq_refl _|(show altO _ _ _ _=true;kernel_rfl)|(show (_ || _)=true;kernel_rfl)|(show (_ && _)=true;kernel_rfl))
   all_goals exact fzEq rfl rfl
  by_cases h2:24 < re.depth
  ·rw[show validP ⟨re,caps,true⟩=4 from if_pos (.inr h2)]
   simp +contextual (disch:=omega) only[Try.f23,dd23,go_sem,simprocAttr,mu23,↓wrap_up,↓wrap_down,↓wrap_pred,↓wrap_sub_nat,hl8,hget8,hget9,h112,h113,hall,htk8,List.all_append]
   repeat' (first|intro _|apply And.intro|(unfold dOk;kernel_rfl)|exact St.beq_refl _|(show altO _ _ _ _=true;kernel_rfl)|(show (_ || _)=true;kernel_rfl)|(show (_ && _)=true;kernel_rfl))
   all_goals exact fzEq rfl rfl
  have hno:¬ (256 < re.size∨24 < re.depth):=by omega
  have hcp:(caps < 0)∨(¬ caps < 0∧9 < caps)∨(¬ caps < 0∧¬ 9 < caps):=by omega
  rcases hcp with h3|⟨h3,h4⟩|⟨h3,h4⟩
  ·rw[show validP ⟨re,caps,true⟩=1 from(if_neg hno).trans (if_pos (.inl h3))]
   simp +contextual (disch:=omega) only[Try.f23,dd23,go_sem,simprocAttr,mu23,↓wrap_up,↓wrap_down,↓wrap_pred,↓wrap_sub_nat,hl8,hget8,hget9,h112,h113,hall,htk8,List.all_append]
   repeat' (first|intro _|apply And.intro|(unfold dOk;kernel_rfl)|exact St.beq_refl _|(show altO _ _ _ _=true;kernel_rfl)|(show (_ || _)=true;kernel_rfl)|(show (_ && _)=true;kernel_rfl))
   all_goals exact fzEq rfl rfl
  ·rw[show validP ⟨re,caps,true⟩=1 from(if_neg hno).trans (if_pos (.inr (.inl h4)))]
   simp +contextual (disch:=omega) only[Try.f23,dd23,go_sem,simprocAttr,mu23,↓wrap_up,↓wrap_down,↓wrap_pred,↓wrap_sub_nat,hl8,hget8,hget9,h112,h113,hall,htk8,List.all_append]
   repeat' (first|intro _|apply And.intro|(unfold dOk;kernel_rfl)|exact St.beq_refl _|(show altO _ _ _ _=true;kernel_rfl)|(show (_ || _)=true;kernel_rfl)|(show (_ && _)=true;kernel_rfl))
   all_goals exact fzEq rfl rfl
  ·cases hwg:wholeG caps 1114111 re with
   | true=>
     rw[hwg]at h114
     rw[show validP ⟨re,caps,true⟩=0 from(if_neg hno).trans (if_neg (by simp only[topI,Bool.false_eq_true,if_false,if_true,hwg];simp;omega))]
     simp +contextual (disch:=omega) only[Try.f23,dd23,go_sem,simprocAttr,mu23,↓wrap_up,↓wrap_down,↓wrap_pred,↓wrap_sub_nat,hl8,hget8,hget9,h112,h113,h114,hall,htk8,List.all_append]
     repeat' (first|intro _|apply And.intro|(unfold dOk;kernel_rfl)|exact St.beq_refl _|(show altO _ _ _ _=true;kernel_rfl)|(show (_ || _)=true;kernel_rfl)|(show (_ && _)=true;kernel_rfl))
     all_goals exact fzEq rfl rfl
   | false=>
     rw[hwg]at h114
     rw[show validP ⟨re,caps,true⟩=1 from(if_neg hno).trans (if_pos (.inr (.inr hwg)))]
     simp +contextual (disch:=omega) only[Try.f23,dd23,go_sem,simprocAttr,mu23,↓wrap_up,↓wrap_down,↓wrap_pred,↓wrap_sub_nat,hl8,hget8,hget9,h112,h113,h114,hall,htk8,List.all_append]
     repeat' (first|intro _|apply And.intro|(unfold dOk;kernel_rfl)|exact St.beq_refl _|(show altO _ _ _ _=true;kernel_rfl)|(show (_ || _)=true;kernel_rfl)|(show (_ && _)=true;kernel_rfl))
     all_goals exact fzEq rfl rfl
end
section
attribute [local go_sem] evAppend
open Go.Proofs Go.RowKit Go.IntWalk
set_option maxRecDepth 100000
set_option maxHeartbeats 8000000
theorem f137 (re:Re) (caps:Int) (t:List Int) (fuel:Int) (hw:re.wt≤1000000) (hv:validP ⟨re,caps,false⟩=0) (hl:t.length≤65536) (ht:∀ x∈t,0≤x∧x≤255) (hf:0≤fuel∧fuel≤1000000) (H:List MB) :
  call Try.prog pol1 58 [patAV ⟨re,caps,false⟩,.sl false (t.map I),I fuel] H=some (I 0,H):=by
 have h52:=f52 ⟨re,caps,false⟩ hw
 rw[hv]at h52
 have hpl:=plain_patC ⟨re,caps,false⟩
 refine call_run Try.func58 rfl rfl rfl rfl rfl rfl (fun _=>rfl) (by simp[AV.plainL,AV.plain,plain_ints];exact hpl) rfl ?_ H
 have hl8:=reC_len re
 have hget9:(reC re++[I caps,.bool false])[9]?=some (.bool false):=by rw[List.getElem?_append_right (by omega),hl8];rfl
 have htk:List.take 10 (reC re++[I caps,.bool false])=reC re++[I caps,.bool false]:=List.take_of_length_le (by simp[reC_len])
 have hall:=reC_ok re
 simp +contextual (disch:=omega) only[Try.f58,dd58,go_sem,simprocAttr,mu58,↓wrap_up,↓wrap_down,↓wrap_pred,↓wrap_sub_nat,h52,hl8,hget9,htk,hall,List.all_append]
 repeat' (first|intro _|apply And.intro|(unfold dOk;kernel_rfl)|exact St.beq_refl _|(show altO _ _ _ _=true;kernel_rfl)|(show (_ || _)=true;kernel_rfl)|(show (_ && _)=true;kernel_rfl))
 refine W_count (M:=(mskOf (pol1.mask 58) (pol1.gc 58) (pol1.acts 58) 0 10)) rfl t.length (fun i=>(⟨45,[(9,I i),(8,I 255),(2,I fuel),(1,.sl false (t.map I))],[.row 10 [patAV ⟨re,caps,false⟩] 0]⟩:St)) (fun _=>True) ?_ ?_ trivial _ (by first|rfl|(refine prep_cut rfl (by rfl) (by rfl) (by rfl) ?_ ?_<;>simp[AV.underL,AV.under,MB.under,underL_plain,under_plain,plain_ints,plain_span,plain_ins,plain_prg,-List.map_take]))
 ·intro i hi _
  obtain⟨x,hx⟩:∃ x,t[i]?=some x:=⟨_,List.getElem?_eq_getElem hi⟩
  have hb:=ht x (List.mem_of_getElem? hx)
  simp +contextual (disch:=omega) only[Try.f58,dd58,go_sem,simprocAttr,mu58,↓wrap_up,↓wrap_down,↓wrap_pred,↓wrap_sub_nat,hx]
  repeat' (first|intro _|apply And.intro|(unfold dOk;kernel_rfl)|exact St.beq_refl _|(show altO _ _ _ _=true;kernel_rfl)|(show (_ || _)=true;kernel_rfl)|(show (_ && _)=true;kernel_rfl))
  all_goals exact(by first|rfl|(simp[keepT,AV.underL,AV.under,MB.under,underL_plain,under_plain,underL_append,plain_ints,plain_span,plain_ins,plain_prg,-List.map_take,-List.map_replicate,-List.map_set, *];done))
 ·intro _
  simp +contextual (disch:=omega) only[Try.f58,dd58,go_sem,simprocAttr,mu58,↓wrap_up,↓wrap_down,↓wrap_pred,↓wrap_sub_nat]
  repeat' (first|intro _|apply And.intro|(unfold dOk;kernel_rfl)|exact St.beq_refl _|(show altO _ _ _ _=true;kernel_rfl)|(show (_ || _)=true;kernel_rfl)|(show (_ && _)=true;kernel_rfl))
  all_goals exact fzEq rfl rfl
abbrev bare (n:Nat):Caps:=List.replicate n (-1,-1)
theorem f139 (n:Nat) (hn:n≤1000) (H:List MB):call Try.prog pol1 60 [I n] H=some (capA (bare n),H):=by
 refine call_run Try.func60 rfl rfl rfl rfl rfl rfl (fun _=>rfl) (by simp[AV.plain,AV.plainL]) (show AV.plain (.sl false _)=true from plain_span (bare n)) ?_ H
 simp +contextual (disch:=omega) only[Try.f60,dd60,go_sem,simprocAttr,mu60,↓wrap_up,↓wrap_down,↓wrap_pred,↓wrap_sub_nat]
 refine W_count (M:=(mskOf (pol1.mask 60) (pol1.gc 60) (pol1.acts 60) 0 3)) rfl n (fun j=>(⟨15,[(4,I j),(3,.ms 0 2 j 0 j),(0,I n)],[.row 2 ((bare j).map spanAV) 0]⟩:St)) (fun _=>True) ?_ ?_ trivial _ (by first|rfl|(refine prep_cut rfl (by rfl) (by rfl) (by rfl) ?_ ?_<;>simp[AV.underL,AV.under,MB.under,underL_plain,under_plain,plain_ints,plain_span,plain_ins,plain_prg,-List.map_take]))
 ·intro j hj _
  have hl:(bare j).length=j:=by simp
  have hs:bare (j+1)=bare j++[(-1,-1)]:=List.replicate_succ'
  rw[hs]
  generalize bare j=cs at *
  have htk:=take_map_len (f:=spanAV) hl
  simp +contextual (disch:=omega) only[Try.f60,dd60,go_sem,simprocAttr,mu60,↓wrap_up,↓wrap_down,↓wrap_pred,↓wrap_sub_nat,hl,htk]
  repeat' (first|intro _|apply And.intro|(unfold dOk;kernel_rfl)|exact St.beq_refl _|(show altO _ _ _ _=true;kernel_rfl)|(show (_ || _)=true;kernel_rfl)|(show (_ && _)=true;kernel_rfl))
  all_goals exact(by first|rfl|(refine prep_to (n:=1) (m:=⟨some [4,3,0],some 1,[]⟩) rfl rfl ?_ ?_ ?_<;>first|rfl|(simp[keepT,AV.underL,AV.under,MB.under,underL_plain,under_plain,underL_append,plain_ints,plain_span,plain_ins,plain_prg,-List.map_take,-List.map_replicate,-List.map_set, *];done)|(simp[keepT,AV.underL,AV.under,MB.under,underL_plain,under_plain,underL_append,plain_ints,plain_span,plain_ins,plain_prg,-List.map_take,-List.map_replicate,-List.map_set, *];omega)))
 ·intro _
  have hl:(bare n).length=n:=by simp
  generalize bare n=cs at *
  simp +contextual (disch:=omega) only[Try.f60,dd60,go_sem,simprocAttr,mu60,↓wrap_up,↓wrap_down,↓wrap_pred,↓wrap_sub_nat,hl]
  simp only[fz]
  rw[fzA_row (els:=cs.map spanAV) (k:=2) (z:=0) rfl (by simp[hl]) (plain_span cs)]
  exact⟨_,rfl⟩
def symJ:List Int:=[97,97,97,98,98,99,97,98,10,32,65,200]
def textT (l:List Int) (n:Nat):List Int:=(List.range n).map fun(i:Nat)=>symJ.getD (pickI l i 12).toNat 0
theorem textT_succ (l:List Int) (n:Nat):textT l (n+1)=textT l n++[symJ.getD (pickI l n 12).toNat 0]:=by simp[textT,List.range_succ]
theorem textT_len (l:List Int) (n:Nat):(textT l n).length=n:=by simp[textT]
theorem textT_in (l:List Int) (n:Nat):∀ x∈textT l n,0≤x∧x≤255:=by
 intro x hx
 obtain⟨i,_,rfl⟩:=List.mem_map.1 hx
 have hp:=pick_lt (l:=l) (i:=i) (m:=12) (by omega)
 generalize (pickI l i 12)=k at hp
 have:k=0∨k=1∨k=2∨k=3∨k=4∨k=5∨k=6∨k=7∨k=8∨k=9∨k=10∨k=11:=by omega
 rcases this with rfl|rfl|rfl|rfl|rfl|rfl|rfl|rfl|rfl|rfl|rfl|rfl<;>decide
theorem f122 (l:List Int) (hl:∀ x∈l,In64 x) (H:List MB):call Try.prog pol1 17 [.sl false (l.map I),I 12] H=some (.sl false ((textT l (min l.length 12)).map I),H):=by
 refine call_run Try.func17 rfl rfl rfl rfl rfl rfl (fun _=>rfl) (by simp[AV.plain,AV.plainL,plain_ints]) (by simp[AV.plain,plain_ints]) ?_ H
 simp +contextual (disch:=omega) only[Try.f17,dd17,go_sem,simprocAttr,mu17,↓wrap_up,↓wrap_down,↓wrap_pred,↓wrap_sub_nat]
 refine W_count (M:=(mskOf (pol1.mask 17) (pol1.gc 17) (pol1.acts 17) 0 3)) rfl (min l.length 12) (fun j=>(⟨28,[(6,I j),(5,.ms 0 1 j 0 j),(1,I 12),(0,.sl false (l.map I))],[.row 1 ((textT l j).map I) 0]⟩:St)) (fun _=>True) ?_ ?_ trivial _ (by first|rfl|(refine prep_cut rfl (by rfl) (by rfl) (by rfl) ?_ ?_<;>simp[AV.underL,AV.under,MB.under,underL_plain,under_plain,plain_ints,plain_span,plain_ins,plain_prg,-List.map_take]))
 ·intro j hj _
  have ht:=textT_len l j
  have h57:=f57 l j 12 hl (by omega)
  have hp:=pick_lt (l:=l) (i:=j) (m:=12) (by omega)
  rw[textT_succ]
  generalize textT l j=cs at *
  have htk:=take_map_len (f:=I) ht
  generalize pickI l j 12=k at *
  obtain⟨v,hv⟩:∃ v,symJ[k.toNat]?=some v:=⟨_,List.getElem?_eq_getElem (by simp[symJ];omega)⟩
  rw[List.getD_eq_getElem?_getD,hv,Option.getD_some]
  obtain⟨k,rfl⟩:∃ n:Nat,k=n:=⟨k.toNat,by omega⟩
  have hv2:[I 97,I 97,I 97,I 98,I 98,I 99,I 97,I 98,I 10,I 32,I 65,I 200][k]?=some (I v):=by
   have:symJ.map I=[I 97,I 97,I 97,I 98,I 98,I 99,I 97,I 98,I 10,I 32,I 65,I 200]:=rfl
   rw[← this,List.getElem?_map]
   simpa using congrArg (Option.map I) hv
  have c1:j < l.length:=by omega
  have c2:j < 12:=by omega
  simp +contextual (disch:=omega) only[Try.f17,dd17,go_sem,simprocAttr,mu17,↓wrap_up,↓wrap_down,↓wrap_pred,↓wrap_sub_nat,ht,htk,h57,hv2]
  repeat' (first|intro _|apply And.intro|(unfold dOk;kernel_rfl)|exact St.beq_refl _|(show altO _ _ _ _=true;kernel_rfl)|(show (_ || _)=true;kernel_rfl)|(show (_ && _)=true;kernel_rfl))
  all_goals exact(by first|rfl|(refine prep_to (n:=1) (m:=⟨some [6,5,1,0],some 1,[]⟩) rfl rfl ?_ ?_ ?_<;>first|rfl|(simp[keepT,AV.underL,AV.under,MB.under,underL_plain,under_plain,underL_append,plain_ints,plain_span,plain_ins,plain_prg,-List.map_take,-List.map_replicate,-List.map_set, *];done)|(simp[keepT,AV.underL,AV.under,MB.under,underL_plain,under_plain,underL_append,plain_ints,plain_span,plain_ins,plain_prg,-List.map_take,-List.map_replicate,-List.map_set, *];omega)))
 ·intro _
  have ht:=textT_len l (min l.length 12)
  generalize textT l (min l.length 12)=cs at *
  by_cases c:l.length < 12
  ·rw[Nat.min_eq_left (by omega)]at *
   simp +contextual (disch:=omega) only[Try.f17,dd17,go_sem,simprocAttr,mu17,↓wrap_up,↓wrap_down,↓wrap_pred,↓wrap_sub_nat,ht]
   simp only[fz]
   rw[fzA_row (els:=cs.map I) (k:=1) (z:=0) rfl (by simp[ht]) (plain_ints cs)]
   exact⟨_,rfl⟩
  ·rw[Nat.min_eq_right (by omega)]at *
   by_cases c2:12=l.length
   ·simp +contextual (disch:=omega) only[Try.f17,dd17,go_sem,simprocAttr,mu17,↓wrap_up,↓wrap_down,↓wrap_pred,↓wrap_sub_nat,ht]
    repeat' (first|intro _|apply And.intro|(unfold dOk;kernel_rfl)|exact St.beq_refl _|(show altO _ _ _ _=true;kernel_rfl)|(show (_ || _)=true;kernel_rfl)|(show (_ && _)=true;kernel_rfl))
    all_goals simp only[fz]
    all_goals rw[fzA_row (els:=cs.map I) (k:=1) (z:=0) rfl (by simp[ht]) (plain_ints cs)]
    all_goals exact⟨_,rfl⟩
   ·simp +contextual (disch:=omega) only[Try.f17,dd17,go_sem,simprocAttr,mu17,↓wrap_up,↓wrap_down,↓wrap_pred,↓wrap_sub_nat,ht]
    repeat' (first|intro _|apply And.intro|(unfold dOk;kernel_rfl)|exact St.beq_refl _|(show altO _ _ _ _=true;kernel_rfl)|(show (_ || _)=true;kernel_rfl)|(show (_ && _)=true;kernel_rfl))
    all_goals simp only[fz]
    all_goals rw[fzA_row (els:=cs.map I) (k:=1) (z:=0) rfl (by simp[ht]) (plain_ints cs)]
    all_goals exact⟨_,rfl⟩
end
section
attribute [local go_sem] evAppend
open Go.Proofs Go.RowKit Go.IntWalk
set_option maxRecDepth 100000
set_option maxHeartbeats 8000000
def matsG (at_:Int) (es:List Int) (cs:List Caps) (n:Nat):List AV:=(List.range n).map fun i=>matAV at_ (es.getD i 0) (cs.getD i [])
theorem matsG_succ (at_:Int) (es:List Int) (cs:List Caps) (n:Nat):matsG at_ es cs (n+1)=matsG at_ es cs n++[matAV at_ (es.getD n 0) (cs.getD n [])]:=by simp[matsG,List.range_succ]
theorem matsG_len (at_:Int) (es:List Int) (cs:List Caps) (n:Nat):(matsG at_ es cs n).length=n:=by simp[matsG]
theorem plain_matsG (at_:Int) (es:List Int) (cs:List Caps) (n:Nat):AV.plainL (matsG at_ es cs n)=true:=by
 rw[plainL_iff]
 intro x hx
 obtain⟨i,_,rfl⟩:=List.mem_map.1 hx
 exact plain_mat _ _ _
theorem f137e (re:Re) (caps:Int) (t:List Int) (fuel:Int) (hw:re.wt≤1000000) (hv:validP ⟨re,caps,false⟩≠0) (H:List MB) :
  call Try.prog pol1 58 [patAV ⟨re,caps,false⟩,.sl false (t.map I),I fuel] H=some (I (validP ⟨re,caps,false⟩),H):=by
 have h52:=f52 ⟨re,caps,false⟩ hw
 generalize validP ⟨re,caps,false⟩=v at *
 have hpl:=plain_patC ⟨re,caps,false⟩
 refine call_run Try.func58 rfl rfl rfl rfl rfl rfl (fun _=>rfl) (by simp[AV.plainL,AV.plain,plain_ints];exact hpl) rfl ?_ H
 have hl8:=reC_len re
 have hget9:(reC re++[I caps,.bool false])[9]?=some (.bool false):=by rw[List.getElem?_append_right (by omega),hl8];rfl
 have htk:List.take 10 (reC re++[I caps,.bool false])=reC re++[I caps,.bool false]:=List.take_of_length_le (by simp[reC_len])
 have hall:=reC_ok re
 simp +contextual (disch:=omega) only[Try.f58,dd58,go_sem,simprocAttr,mu58,↓wrap_up,↓wrap_down,↓wrap_pred,↓wrap_sub_nat,h52,hl8,hget9,htk,hall,List.all_append]
 repeat' (first|intro _|apply And.intro|(unfold dOk;kernel_rfl)|exact St.beq_refl _|(show altO _ _ _ _=true;kernel_rfl)|(show (_ || _)=true;kernel_rfl)|(show (_ && _)=true;kernel_rfl))
 all_goals exact⟨_,rfl⟩
theorem f123e (re:Re) (n:Nat) (t:List Int) (at_:Nat) (fuel:Int) (hw:re.wt≤1000000) (hv:validP ⟨re,n,false⟩≠0) (H:List MB) :
  call Try.prog pol1 38 [patAV ⟨re,n,false⟩,.sl false (t.map I),I at_,I (-1),I fuel] H=some (.tup [.sl false [],I 0,I (validP ⟨re,n,false⟩)],H):=by
 have h137:=f137e re n t fuel hw hv
 generalize validP ⟨re,n,false⟩=v at *
 have hpl:=plain_patC ⟨re,n,false⟩
 have hl8:=reC_len re
 have htk:List.take 10 (reC re++[I n,.bool false])=reC re++[I n,.bool false]:=List.take_of_length_le (by simp[reC_len])
 have hall:=reC_ok re
 refine call_run Try.func38 rfl rfl rfl rfl rfl rfl (fun _=>rfl) (by simp[AV.plainL,AV.plain,plain_ints];exact hpl) rfl ?_ H
 simp +contextual (disch:=omega) only[Try.f38,dd38,go_sem,simprocAttr,mu38,↓wrap_up,↓wrap_down,↓wrap_pred,↓wrap_sub_nat,h137,hl8,htk,hall,List.all_append]
 repeat' (first|intro _|apply And.intro|(unfold dOk;kernel_rfl)|exact St.beq_refl _|(show altO _ _ _ _=true;kernel_rfl)|(show (_ || _)=true;kernel_rfl)|(show (_ && _)=true;kernel_rfl))
 all_goals exact⟨_,rfl⟩
theorem f123 (re:Re) (n:Nat) (t:List Int) (at_:Nat) (fuel:Int) (hw:re.wt≤1000000) (hv:validP ⟨re,n,false⟩=0) (hn:n≤1000) (hl:t.length≤65536) (ht:∀ x∈t,0≤x∧x≤255) (hf:0≤fuel∧fuel≤1000000)
  (hr:RGood n 255 re) (hc:lpG re=true) (ha:at_≤t.length) :
  ∃(out:AV) (k e:Int),AV.plain out=true∧(e=0∨e=11)∧(e=0→(costR t re at_:Int)≤fuel)∧∀ H,call Try.prog pol1 38 [patAV ⟨re,n,false⟩,.sl false (t.map I),I at_,I (-1),I fuel] H=some (.tup [out,I k,I e],H):=by
 have h137:=f137 re n t fuel hw hv hl ht hf
 have h139:=f139 n hn
 have hs0:SPre fuel (⟨0,false,[],[]⟩:SS):=⟨rfl,⟨Int.le_refl _,hf.1⟩,rfl,by simp⟩
 have hg0:GG n 255 t.length (0:Int) (.mk 0 re 0 0 .nil):=⟨hr,.inl rfl,⟨Int.le_refl _,by omega⟩,trivial⟩
 obtain⟨d,b,s,hrun,hpost,hst⟩:=re_run n 255 t fuel re hr hc 0 0 .nil at_ (fun _=>0) ha (fun j hj=>RT.nil (outs_in t re at_ ha j hj).2) (bare n) ⟨0,false,[],[]⟩ hg0 (by simp;omega) hs0
 have hsum:((outs t re at_).map fun _=>0).sum=0:=by
  induction outs t re at_ with
  | nil=>rfl
  | cons a l ih=>simp[ih]
 rw[hsum]at hst
 have h138:=(box138 [.row 10 [patAV ⟨re,n,false⟩] 0] [] t fuel ⟨0,false,[],[]⟩ 0 (goalC 0 re 0 0 .nil) at_ (bare n) (plain_goalC 0 re 0 0 .nil)).trans
  (run138 hl hf d [.row 10 [patAV ⟨re,n,false⟩] 0] [MB.row 12 [.agg (goalC 0 re 0 0 .nil)] 1] (.mk 0 re 0 0 .nil) at_ (bare n) ⟨0,false,[],[]⟩ b s hg0 (by omega) (by omega) (by simp;omega) hs0 hrun)
 have hcl:=hpost.cl
 have hel:=hpost.el
 have hfu:=hpost.fu
 have heb:=hpost.eb
 obtain⟨steps,empty,ends,caps⟩:=s
 simp only at hcl hel hfu heb hst
 simp only[srH,goalC,goalA,sB,List.length_cons,List.length_nil,List.map_nil,List.cons_append,List.nil_append,Nat.reduceAdd,Nat.zero_add]at h138
 have hpl:=plain_patC ⟨re,n,false⟩
 have hl8:=reC_len re
 have hget8:(reC re++[I n,.bool false])[8]?=some (I n):=by rw[List.getElem?_append_right (by omega),hl8];rfl
 have htk:List.take 10 (reC re++[I n,.bool false])=reC re++[I n,.bool false]:=List.take_of_length_le (by simp[reC_len])
 have htk8:∀ l,List.take 8 (reC re++l)=reC re:=fun l=>by
  rw[List.take_append_of_le_length (by omega)];exact List.take_of_length_le (by omega)
 have hall:=reC_ok re
 subst heb
 cases b with
 | true=>
   refine⟨.sl false [],0,11,rfl,.inr rfl,fun h=>by omega,?_⟩
   refine fun H=>call_run Try.func38 rfl rfl rfl rfl rfl rfl (fun _=>rfl) (by simp[AV.plainL,AV.plain,plain_ints];exact hpl) rfl ?_ H
   simp +contextual (disch:=omega) only[Try.f38,dd38,go_sem,simprocAttr,mu38,↓wrap_up,↓wrap_down,↓wrap_pred,↓wrap_sub_nat,h137,h139,h138,hl8,hget8,htk,htk8,hall,List.all_append]
   repeat' (first|intro _|apply And.intro|(unfold dOk;kernel_rfl)|exact St.beq_refl _|(show altO _ _ _ _=true;kernel_rfl)|(show (_ || _)=true;kernel_rfl)|(show (_ && _)=true;kernel_rfl))
   all_goals exact⟨_,rfl⟩
 | false=>
   refine⟨.sl false (matsG at_ ends caps ends.length),steps,0,plain_matsG _ _ _ _,.inl rfl,fun _=>by have:=hst rfl;have:=hfu rfl;omega,?_⟩
   refine fun H=>call_run Try.func38 rfl rfl rfl rfl rfl rfl (fun _=>rfl) (by simp[AV.plainL,AV.plain,plain_ints];exact hpl) (by simp[AV.plain,AV.plainL,plain_matsG]) ?_ H
   simp +contextual (disch:=omega) only[Try.f38,dd38,go_sem,simprocAttr,mu38,↓wrap_up,↓wrap_down,↓wrap_pred,↓wrap_sub_nat,h137,h139,h138,hl8,hget8,htk,htk8,hall,List.all_append]
   repeat' (first|intro _|apply And.intro|(unfold dOk;kernel_rfl)|exact St.beq_refl _|(show altO _ _ _ _=true;kernel_rfl)|(show (_ || _)=true;kernel_rfl)|(show (_ && _)=true;kernel_rfl))
   have u1:∀ m,AV.underL m (reC re)=true:=fun m=>underL_plain _ _ (plain_reC re)
   have hE:ends.length≤300000000:=by have:=hfu rfl;simp only[List.length_nil]at hel;omega
   refine W_count (M:=(mskOf (pol1.mask 38) (pol1.gc 38) (pol1.acts 38) 0 12)) rfl ends.length (fun j=>(⟨84,[(16,I j),(15,.ms 5 3 j 0 j),(14,.rf 1 1 0 0),(2,I at_)],[.row 10 [patAV ⟨re,n,false⟩] 0,
    .row 7 [.agg [.sl false (t.map I),I (-1),I fuel,I steps,.bool false,.ms 2 1 ends.length 0 ends.length,.ms 3 1 ends.length 0 ends.length]] 0,.row 1 (ends.map I) 0,.row 1 (caps.map capA) 0,
    .row 12 [.agg (goalC 0 re 0 0 .nil)] 1,.row 3 (matsG at_ ends caps j) 0]⟩:St)) (fun _=>True) ?_ ?_ trivial _ ?_
   ·intro j hj _
    obtain⟨a,ha⟩:∃ a,ends[j]?=some a:=⟨_,List.getElem?_eq_getElem (by omega)⟩
    obtain⟨c,hc⟩:∃ c,caps[j]?=some c:=⟨_,List.getElem?_eq_getElem (by omega)⟩
    have hm:=matsG_len at_ ends caps j
    have hpm:=plain_matsG at_ ends caps j
    rw[matsG_succ,List.getD_eq_getElem?_getD,List.getD_eq_getElem?_getD,ha,hc]
    simp only[Option.getD_some]
    generalize matsG at_ ends caps j=ms at *
    have htk:List.take j ms=ms:=List.take_of_length_le (by omega)
    simp +contextual (disch:=omega) only[Try.f38,dd38,go_sem,simprocAttr,mu38,↓wrap_up,↓wrap_down,↓wrap_pred,↓wrap_sub_nat,ha,hc,hm,hcl,matAV,htk]
    repeat' (first|intro _|apply And.intro|(unfold dOk;kernel_rfl)|exact St.beq_refl _|(show altO _ _ _ _=true;kernel_rfl)|(show (_ || _)=true;kernel_rfl)|(show (_ && _)=true;kernel_rfl))
    all_goals (refine prep_to (n:=6) (m:=⟨some [16,15,14,2],some 6,[]⟩) rfl rfl ?_ ?_ ?_<;>simp[keepT,AV.underL,AV.under,MB.under,underL_plain,under_plain,underL_append,plain_ints,plain_span,-List.map_take,u1,plain_caps,hpm,htk]<;>rfl)
   ·intro _
    have hm:=matsG_len at_ ends caps ends.length
    have hpm:=plain_matsG at_ ends caps ends.length
    generalize matsG at_ ends caps ends.length=ms at *
    simp +contextual (disch:=omega) only[Try.f38,dd38,go_sem,simprocAttr,mu38,↓wrap_up,↓wrap_down,↓wrap_pred,↓wrap_sub_nat,hm]
    repeat' (first|intro _|apply And.intro|(unfold dOk;kernel_rfl)|exact St.beq_refl _|(show altO _ _ _ _=true;kernel_rfl)|(show (_ || _)=true;kernel_rfl)|(show (_ && _)=true;kernel_rfl))
    simp only[fz,fzA_tup,fzL,fzA_int]
    rw[fzA_row (els:=ms) (k:=3) (z:=0) rfl hm hpm]
    exact⟨_,rfl⟩
   ·refine prep_cut rfl (by rfl) (by rfl) (by rfl) ?_ ?_<;>simp[AV.underL,AV.under,MB.under,underL_plain,under_plain,plain_ints,plain_span,plain_caps,underL_append,u1,-List.map_take]
    all_goals exact⟨rfl,rfl⟩
end
end Go.Ev
namespace Go.Ev
open Go.Proofs Go.RowKit
theorem ext1:ExtOk Try.prog pol1:=by
 intro f g hg args H r H' h
 have hf:(f=29∧g=cloneExt 2 16)∨(f=28∧g=cloneExtO 5 56):=by
  by_cases e:f=29
  ·subst e
   have:pol1.ext 29=some (cloneExt 2 16):=rfl
   rw[this]at hg
   exact .inl ⟨rfl,(Option.some.inj hg).symm⟩
  ·by_cases e2:f=28
   ·subst e2
    have:pol1.ext 28=some (cloneExtO 5 56):=rfl
    rw[this]at hg
    exact .inr ⟨rfl,(Option.some.inj hg).symm⟩
   ·have:pol1.ext f=none:=by
     show (if f=29 then some (cloneExt 2 16) else if f=28 then some (cloneExtO 5 56) else none)=none
     rw[if_neg e,if_neg e2]
    rw[this]at hg
    cases hg
 rcases hf with ⟨rfl,rfl⟩|⟨rfl,rfl⟩
 ·exact clone_sound (T:=23) (B:=4) (e:=74) (k:=2) (by_:=16) (ze:=.agg [.int .i64 0,.int .i64 0])
   Try.func29 rfl rfl rfl rfl (by kernel_rfl) (by kernel_rfl) (by omega) (by kernel_rfl) (by kernel_rfl) rfl rfl h
 ·exact cloneO_sound (T:=42) (B:=4) (e:=51) (k:=5) (by_:=56) (ze:=.agg [.int .i64 0,.int .i64 0,.int .i64 0,.int .i64 0,.sl true []])
   Try.func28 rfl rfl rfl rfl (by kernel_rfl) (by kernel_rfl) (by omega) (by kernel_rfl) (by kernel_rfl) rfl rfl h
theorem follows1:Try.prog.follows .mixedOrders=true:=by kernel_rfl
theorem ok1:CfOk Try.prog (call Try.prog pol1):=call_ok ext1 follows1
end Go.Ev
namespace Go.Ev
attribute [local go_sem] evBin AV.cells frzB List.length_append List.map_append tySzE List.head?_drop Nat.mul_one sameAt_zero sameAt_two sameAt_three sameAt_four sameAt_five room_ok
section
open Go.Proofs Go.RowKit Go.IntWalk
set_option maxRecDepth 100000
set_option maxHeartbeats 8000000
def compP (p:Pat):Prg×Int:=
 if validP p=0 then
  if compG [] p.re=true then
   if lenG p.re+1≤8192 then(⟨codeG p.re 0++[⟨0,0,0,0,[]⟩],p.caps,p.runes⟩,0) else(⟨[],0,false⟩,4)
  else(⟨[],0,false⟩,10)
 else(⟨[],0,false⟩,validP p)
theorem valid_facts {p:Pat} (h:validP p=0):p.re.size≤256∧p.re.depth≤24∧0≤p.caps∧p.caps≤9∧wholeG p.caps (topI p.runes) p.re=true:=by
 unfold validP at h
 split at h
 ·cases h
 ·split at h
  ·cases h
  ·rename_i h1 h2
   cases hw:wholeG p.caps (topI p.runes) p.re with
   | true=>exact⟨by omega,by omega,by omega,by omega,rfl⟩
   | false=>exact absurd (.inr (.inr hw)) h2
theorem f53n (caps top:Int) (r:Re) (hN:r.wt≤1000000) (hw:wholeG caps top r=true) (H:List MB):call Try.prog pol1 22 [reAV r,.sl true []] H=some (.bool (compG [] r),H):=by
 rw[← f53 caps top r.wt r [] (Nat.le_refl _) hN (by simp;omega) hw H]
 refine call_frz' rfl ?_ (by simp[AV.plain,AV.plainL,plain_reC])
 have hby:∀ i,pol1.byref 22 i=false:=fun i=>rfl
 have hz:fz (reAV r) H=some (reAV r,H):=fz_plain _ (by simp[AV.plain,plain_reC])
 have h2:fz (.sl true []) H=some (.sl false [],H):=rfl
 simp only[frzArgs,hby,Bool.false_eq_true,if_false,hz,h2,List.map_nil]
theorem fin_prg {H:List MB} {id n:Nat} {els:List AV} {c:List Ins} (caps:Int) (runes:Bool) (hl:els.length=n) (hk:∀ j H,fzL j els H=some (c.map insAV,H)) (hr:getRow H id=some (5,els,0)) :
  ∃ H',fz (.tup [.agg [.ms id 5 n 0 n,I caps,.bool runes],I 0]) H=some (.tup [prgAV ⟨c,caps,runes⟩,I 0],H'):=by
 have h2:fzA (fzJ 6) (.ms id 5 n 0 n) H=some (.sl false (c.map insAV),mark H id n):=by
  have:=fzA_ms (n:=5) (off:=0) (len:=n) (ys:=c.map insAV) (H':=mark H id (0+n)) hr hl (by omega) (by rw[List.drop_zero,List.take_of_length_le (by omega)];exact hk _ _)
  rwa [Nat.zero_add]at this
 refine⟨mark H id n,?_⟩
 simp only[fz,fzA_tup,fzA_agg,fzL,h2,fzA_int]
 rfl
theorem f15 (p:Pat) (hw:p.re.wt≤1000000) (H:List MB):call Try.prog pol1 6 [patAV p] H=some (.tup [prgAV (compP p).1,I (compP p).2],H):=by
 have h52:=f52 p hw
 obtain⟨re,caps,runes⟩:=p
 simp only at hw
 have hl8:=reC_len re
 have hget8:(reC re++[I caps,.bool runes])[8]?=some (I caps):=by rw[List.getElem?_append_right (by omega),hl8];rfl
 have hget9:(reC re++[I caps,.bool runes])[9]?=some (.bool runes):=by rw[List.getElem?_append_right (by omega),hl8];rfl
 have htk8:∀ l,List.take 8 (reC re++l)=reC re:=fun l=>by
  rw[List.take_append_of_le_length (by omega)];exact List.take_of_length_le (by omega)
 have hall:=reC_ok re
 have ht10:List.take 10 (patC ⟨re,caps,runes⟩)=patC ⟨re,caps,runes⟩:=List.take_of_length_le (by simp[hl8])
 have hpl:∀ x:Prg×Int,AV.plain (.tup [prgAV x.1,I x.2])=true:=fun x=>by simp[AV.plain,AV.plainL,plain_ins]
 refine call_run Try.func6 rfl rfl rfl rfl rfl rfl (fun _=>rfl) (by simp[AV.plainL,AV.plain];exact plain_patC _) (hpl _) ?_ H
 unfold compP
 by_cases hv:validP ⟨re,caps,runes⟩=0
 ·rw[if_pos hv]
  obtain⟨hsz,hdp,hc0,hc9,hwg⟩:=valid_facts hv
  simp only at hc0 hc9 hwg
  rw[hv]at h52
  have h53:=f53n _ _ re hw hwg
  have h54:=f54 _ _ re.wt re (Nat.le_refl _) hw hwg
  cases hc:compG [] re with
  | false=>
    rw[hc]at h53
    rw[if_neg Bool.false_ne_true]
    simp +contextual (disch:=omega) only[Try.f6,dd6,go_sem,simprocAttr,evAppend,mu6,↓wrap_up,↓wrap_down,↓wrap_pred,↓wrap_sub_nat,h52,h53,ht10,hl8,hget8,hget9,hall,htk8,List.all_append]
    exact⟨_,rfl⟩
  | true=>
    rw[hc]at h53
    rw[if_pos rfl]
    by_cases hL:lenG re+1≤8192
    ·rw[if_pos hL]
     have hg:GoodC caps (topI runes) re:=⟨hwg,codable_of re [] hc⟩
     have h55:∀ H,call Try.prog pol1 25 [reAV re,I 0] H=some (.ms H.length 5 (lenG re) 0 (lenG re),H++[.row 5 ((codeG re 0).map insAV) 0]):=fun H=>f55 caps (topI runes) (by omega) re.wt re (Nat.le_refl _) hw hg (by omega) 0 (by omega) H
     have hlen:=codeG_len caps (topI runes) re 0 hg
     rw[Nat.min_eq_left (by omega)]at h54
     generalize codeG re 0=C at *
     have hap:=fun b0 b1 x=>app_one (H:=[b0,b1,.row 5 (C.map insAV) 0]) (i:=2) (n:=lenG re) (t:=true) (y:=.agg [I 0,I 0,I 0,I 0,.sl true x]) rfl (by rw[List.length_map];exact hlen) rfl (Nat.zero_le _) (by omega)
     simp +contextual (disch:=omega) only[Try.f6,dd6,go_sem,simprocAttr,mu6,↓wrap_up,↓wrap_down,↓wrap_pred,↓wrap_sub_nat,h52,h53,h54,h55,hap,ht10,hl8,hget8,hget9,hall,htk8,List.all_append]
     repeat' (first|intro _|apply And.intro|(unfold dOk;kernel_rfl)|exact St.beq_refl _|(show altO _ _ _ _=true;kernel_rfl)|(show (_ || _)=true;kernel_rfl)|(show (_ && _)=true;kernel_rfl))
     have hk:∀ j H,fzL j (C.map insAV++[.agg [I 0,I 0,I 0,I 0,.sl true []]]) H=some ((C++[(⟨0,0,0,0,[]⟩:Ins)]).map insAV,H):=fun j H=>by
      rw[List.map_append]
      exact((keep_ins C).append (.one fun H=>rfl)).fz H
     exact fin_prg caps runes (by simp[hlen]) hk rfl
    ·rw[if_neg hL]
     simp +contextual (disch:=omega) only[Try.f6,dd6,go_sem,simprocAttr,evAppend,mu6,↓wrap_up,↓wrap_down,↓wrap_pred,↓wrap_sub_nat,h52,h53,h54,ht10,hl8,hget8,hget9,hall,htk8,List.all_append]
     exact⟨_,rfl⟩
 ·rw[if_neg hv]
  simp +contextual (disch:=omega) only[Try.f6,dd6,go_sem,simprocAttr,evAppend,mu6,↓wrap_up,↓wrap_down,↓wrap_pred,↓wrap_sub_nat,h52,hv,ht10,hl8,hget8,hget9,hall,htk8,List.all_append]
  exact⟨_,rfl⟩
end
section
attribute [local go_sem] evAppend
open Go.Proofs Go.RowKit Go.IntWalk
set_option maxRecDepth 100000
set_option maxHeartbeats 8000000
theorem reC_drop (r:Re):(reC r).drop 8=[]:=List.drop_of_length_le (by rw[reC_len];omega)
theorem fzA_slp (j:List AV→List MB→Option (List AV×List MB)) (a:Bool) {xs:List AV} (H:List MB) (hp:AV.plainL xs=true):fzA j (.sl a xs) H=some (.sl false xs,H):=by
 unfold fzA
 rw[fzL_plain j xs H hp]
theorem fz_node (a b:Bool) (op:Int) (set:List (Int×Int)) (kids:List Re) (mn mx md n:Int) (neg:Bool) (H:List MB) :
  fz (.agg [I op,.sl a (set.map spanAV),.sl b (kids.map reAV),I mn,I mx,I md,I n,.bool neg]) H=some (.agg [I op,.sl false (set.map spanAV),.sl false (kids.map reAV),I mn,I mx,I md,I n,.bool neg],H):=by
 simp only[fz,fzA_agg,fzL,fzA_slp _ _ _ (plain_span set),fzA_slp _ _ _ (plain_kids kids),fzA_int]
 rfl
theorem get_last {α:Type} (K:List α) (x:α):(K++[x])[K.length]?=some x:=by simp
theorem set_last {α:Type} (K:List α) (x y:α):(K++[x]).set K.length y=K++[y]:=by simp
end
end Go.Ev
