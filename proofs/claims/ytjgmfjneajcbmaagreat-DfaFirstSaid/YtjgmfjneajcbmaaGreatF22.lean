/- What functions of the program compute; no further conditions. -/
import Derived.Test.YtjgmfjneajcbmaaGreatF21
set_option linter.unusedVariables false
set_option linter.unusedSimpArgs false
open List (all_append length_cons length_nil map_append map_cons map_nil map_replicate map_set map_take mem_map sum_cons sum_nil take_of_length_le)
open Bool (and_eq_true or_eq_true)
open Go.Proofs Go.RowKit Go.IntWalk
set_option maxHeartbeats 8000000
set_option maxRecDepth 100000
namespace Go.Ev
variable {caps top:Int}{t:List Int}{fuel:Int}
theorem MO {g1 g2:Goal}{i n1 n2:Nat} (hi:i<=t.length) (h1:RT caps top t fuel g1 i n1) (h2:RT caps top t fuel g2 i n2) {c:Caps}{s:SS} (hg1:GG caps top t.length s.steps g1) (hg2:GG caps top t.length s.steps g2)
  (hc:c.length<=1000) (hs:SPre fuel s) (hx:(s.ends.length:Int)<=256*s.steps-256) :
  ∃ d b s',orR (runG t fuel d g1 i c s) (runG t fuel d g2 i c)=some (b,s')/\(b=false->s'.steps=s.steps+(n1+n2:Nat)):=by
 obtain⟨d1,b1,s1,e1,q1,m1⟩:=h1 c s hg1 hc hs;cases b1 with
 | true=>exact⟨d1,true,s1,by rw[e1];rfl,fun h=>by cases h⟩
 | false=>
   obtain⟨d2,b2,s2,e2,q2,m2⟩:=h2 c s1 (hg2.mono q1.st) hc (q1.pre hs hx);refine⟨max d1 d2,b2,s2,?_,fun h=>?_⟩
   ·rw[GQ t fuel (Nat.le_max_left d1 d2) _ _ _ _ _ e1];exact GQ t fuel (Nat.le_max_right d1 d2) _ _ _ _ _ e2
   ·have a:=m1 rfl;have b:=m2 h;omega
def RTRep (caps top:Int) (t:List Int) (fuel:Int) (re:Re) (k:Int) (next:Goal) (i m:Nat):Prop:=
 ∀(c:Caps) (s:SS),0<=k/\k<=s.steps->GG caps top t.length s.steps next->c.length<=1000->SPre fuel s ->
  ∃ d b s',repR fuel (runG t fuel d) re k next i c s=some (b,s')/\(b=false->s'.steps=s.steps+m)
theorem KH {re kid:Re} (h:RGood caps top re) (ho:re.op=4) (hkid:re.kids=[kid]) (hgk:RGood caps top kid) {next:Goal} {κ:Nat->Nat}
  (hpos:∀ i,i<=t.length->∀ j∈outs t kid i,i<j/\j<=t.length)
  (hK:∀(nx:Goal) (i:Nat) (κ':Nat->Nat),i<=t.length->(∀ j∈outs t kid i,RT caps top t fuel nx j (κ' j))->RT caps top t fuel (.mk 0 kid 0 0 nx) i (costR t kid i+((outs t kid i).map κ').sum)) :
  ∀(n:Nat) (k:Int) (i:Nat),i<=t.length->t.length+1-i<=n->(∀ j∈repO (outs t kid) re.mn re.mx re.md n k i,RT caps top t fuel next j (κ j)) ->
   RTRep caps top t fuel re k next i (repC (outs t kid) (costR t kid) re.mn re.mx n k i+((repO (outs t kid) re.mn re.mx re.md n k i).map κ).sum)
 | 0,k,i,hi,hn,_=>by omega
 | n+1,k,i,hi,hn,hx=>by
   intro c s hk hg hc hs;by_cases he:(stepS fuel s).empty=true
   ·exact⟨0,true,stepS fuel s,by unfold repR;simp only;rw[if_pos he],fun h=>by cases h⟩
   obtain⟨p1,p2⟩:=CQ hs (by simpa using he);have hst:(stepS fuel s).steps=s.steps+1:=rfl;have hg1:=hg.mono (show s.steps<=(stepS fuel s).steps by omega);have hon:=FW (next:=next) (i:=i) (L:=t.length) (steps:=(stepS fuel s).steps) h hgk ho (k:=k) ⟨hk.1,by omega⟩ ⟨by omega,by omega⟩ hg1
   have once:(∀ j∈(outs t kid i).flatMap (repO (outs t kid) re.mn re.mx re.md n (k+1)),RT caps top t fuel next j (κ j)) ->
     RT caps top t fuel (.mk 0 kid 0 0 (.mk 2 re k i next)) i (costR t kid i+((outs t kid i).map (repC (outs t kid) (costR t kid) re.mn re.mx n (k+1))).sum+(((outs t kid i).flatMap (repO (outs t kid) re.mn re.mx re.md n (k+1))).map κ).sum):=by
    intro hf;rw[DA,Nat.add_assoc,<- GO];refine hK _ i _ hi fun j hj=>?_;have hij:=hpos i hi j hj;refine RT.of hij.2 fun c s hg hc hs=>?_;obtain⟨g1,g2,g3,g4⟩:=hg;obtain⟨d,b,s',e,m⟩:=KH h ho hkid hgk hpos hK n (k+1) j hij.2 (by omega) (fun q hq=>hf q (List.mem_flatMap.2 ⟨j,hj,hq⟩)) c s (by omega) g4 hc hs;refine⟨d+2,b,s',?_,m⟩;rw[runG,if_neg (by decide),if_pos rfl,if_neg (by omega),runG,if_pos rfl];exact e
   rw[repO]at hx |-;rw[repC];by_cases hm:k<re.mn
   ·rw[if_pos hm]at hx |-;rw[if_pos (.inl hm)];obtain⟨d,b,s',e,q,m⟩:=once hx c _ hon hc p1;refine⟨d,b,s',?_,fun hb=>?_⟩
    ·unfold repR;simp only;rw[if_neg he,hkid];simp only;rw[if_pos hm];exact e
    ·have:=m hb;omega
   ·rw[if_neg hm]at hx |-;by_cases hM:re.mx = -1∨k<re.mx
    ·have hmore:(decide (re.mx = -1)||decide (k<re.mx))=true:=by simpa using hM
     rw[if_pos (.inr hM)];simp only[if_pos hM]at hx |-;by_cases hd:re.md=1
     ·rw[if_pos hd]at hx |-;obtain⟨d,b,s',e,m⟩:=MO hi (hx i (by simp)) (once fun j hj=>hx j (List.mem_cons_of_mem _ hj)) hg1 hon hc p1 (by omega);refine⟨d,b,s',?_,fun hb=>?_⟩
      ·unfold repR;simp only;rw[if_neg he,hkid];simp only;rw[if_neg hm,if_pos hd];simp only[hmore,if_true];exact e
      ·have:=m hb;simp only[map_cons,sum_cons];omega
     ·rw[if_neg hd]at hx |-;obtain⟨d,b,s',e,m⟩:=MO hi (once fun j hj=>hx j (List.mem_append_left _ hj)) (hx i (by simp)) hon hg1 hc p1 (by omega);refine⟨d,b,s',?_,fun hb=>?_⟩
      ·unfold repR;simp only;rw[if_neg he,hkid];simp only;rw[if_neg hm,if_neg hd];simp only[hmore,if_true];exact e
      ·have:=m hb;simp only[map_append,List.sum_append,map_cons,map_nil,sum_cons,sum_nil];omega
    ·have hmore:(decide (re.mx = -1)||decide (k<re.mx))=false:=by
      simp only[Bool.or_eq_false_iff,decide_eq_false_iff_not];omega
     rw[if_neg (by omega)];simp only[if_neg hM]at hx |-;have hO:(if re.md=1 then [i] else []++[i])=[i]:=by split<;>rfl
     rw[hO]at hx |-;obtain⟨d,b,s',e,q,m⟩:=hx i (by simp) c _ hg1 hc p1;refine⟨d,b,s',?_,fun hb=>?_⟩
     ·unfold repR;simp only;rw[if_neg he,hkid];simp only;rw[if_neg hm];simp only[hmore];split
      ·rw[e];cases b with
       | true=>rfl
       | false=>rfl
      ·exact e
     ·have:=m hb;simp only[map_cons,map_nil,sum_cons,sum_nil];omega
mutual
def lpG:Re->Bool
 | .mk op set kids mn mx md n neg=>!(decide (op=4)&&nullHd kids)&&lpL kids
def lpL:List Re->Bool
 | []=>true
 | k::ks=>lpG k&&lpL ks
end
mutual
theorem JN (caps top:Int) (t:List Int) (fuel:Int):∀ r:Re,RGood caps top r->lpG r=true->∀(k fr:Int) (next:Goal) (i:Nat) (κ:Nat->Nat),i<=t.length ->
  (∀ j∈outs t r i,RT caps top t fuel next j (κ j))->RT caps top t fuel (.mk 0 r k fr next) i (costR t r i+((outs t r i).map κ).sum)
 | .mk op set kids mn mx md n neg,hr,hcp,k,fr,next,i,κ,hi,hx=>by
   have hkids:∀ k∈kids,RGood caps top k:=hr.kids;have hC:=fun h next κ=>Mq caps top t fuel kids hkids h next i κ hi
   have hA:=fun h next κ=>Mv caps top t fuel kids hkids h next i κ hi
   have hH:=fun h next i κ hi=>Qx caps top t fuel kids hkids h next i κ hi
   have hop:=hr.good.op;have hlen:=hr.len;rw[lpG,and_eq_true]at hcp;obtain⟨hcp0,hcp⟩:=hcp;refine RT.of hi fun c s hg hc hs=>?_;obtain⟨g1,g2,g3,g4⟩:=hg;by_cases h4:op=4
   ·subst h4;have hnl:nullHd kids=false:=by simpa using hcp0
    obtain⟨kid,hkid,hgk⟩:=JL hr rfl;simp only[Re.kids]at hkid;subst hkid;have ho:∀ i,outs t (.mk 4 set [kid] mn mx md n neg) i=repO (outs t kid) mn mx md (t.length+1-i) 0 i:=fun i=>by
     rw[outs,if_neg (by decide),if_neg (by decide),if_neg (by decide),if_pos rfl];congr 1
    have hcst:∀ i,costR t (.mk 4 set [kid] mn mx md n neg) i=repC (outs t kid) (costR t kid) mn mx (t.length+1-i) 0 i:=fun i=>by
     rw[costR,if_neg (by decide),if_neg (by decide),if_pos rfl];congr 1
    rw[ho]at hx;rw[ho,hcst];rw[lpL,and_eq_true]at hcp
    obtain⟨d,b,s',e,m⟩:=KH (κ:=κ) hr rfl rfl hgk (fun i hi j hj=>⟨DU t kid i (by rw[nullHd]at hnl;exact hnl) hgk.good.cod hi j hj,(CG t kid i hi j hj).2⟩)
     (fun nx i κ' hi h=>hH (by rw[lpL,lpL,hcp.1];rfl) nx i κ' hi h) (t.length+1-i) 0 i hi (Nat.le_refl _) hx c s ⟨Int.le_refl _,hs.st.1⟩ g4 hc hs
    refine⟨d+1,b,s',?_,m⟩;rw[runG,if_neg (by decide),if_neg (by decide),if_neg (by decide),nodeR,if_pos (by rfl)];exact e
   ·by_cases he:(stepS fuel s).empty=true
    ·refine⟨1,true,stepS fuel s,?_,fun h=>by cases h⟩;rw[runG,if_neg (by decide),if_neg (by decide),if_neg (by decide),nodeR,if_neg (by exact h4)];simp only;rw[if_pos he]
    ·obtain⟨p1,p2⟩:=CQ hs (by simpa using he);have hst:(stepS fuel s).steps=s.steps+1:=rfl;have hg1:=g4.mono (show s.steps<=(stepS fuel s).steps by omega);rcases hop with rfl|rfl|rfl|rfl|rfl|rfl|rfl
     ·have ho:outs t (.mk 0 set kids mn mx md n neg) i=[i]:=by rw[outs];simp
      have hcst:costR t (.mk 0 set kids mn mx md n neg) i=1:=by rw[costR];simp
      rw[ho]at hx;rw[ho,hcst];obtain⟨d,b,s',e,q,m⟩:=hx i (by simp) c _ hg1 hc p1;refine⟨d+1,b,s',?_,fun hb=>by have:=m hb;simp only[map_cons,map_nil,sum_cons,sum_nil];omega⟩;simp[runG,nodeR,Re.op,he,e]
     ·have hcst:costR t (.mk 1 set kids mn mx md n neg) i=1:=by rw[costR];simp
      rw[outs,if_pos rfl]at hx |-;rw[hcst];cases hti:t[i]? with
      | none=>
        refine⟨1,false,stepS fuel s,?_,fun _=>by simp;omega⟩;simp[runG,nodeR,Re.op,he,hti]
      | some x=>
        rw[hti]at hx;by_cases hh:hasSpan set x=true
        ·simp only[if_pos hh]at hx |-;obtain⟨d,b,s',e,q,m⟩:=hx (i+1) (by simp) c _ hg1 hc p1;refine⟨d+1,b,s',?_,fun hb=>by have:=m hb;simp only[map_cons,map_nil,sum_cons,sum_nil];omega⟩;simp only[Int.natCast_add,Int.natCast_one]at e;simp[runG,nodeR,Re.op,Re.set,he,hti,hh,e]
        ·simp only[if_neg hh]at hx |-;refine⟨1,false,stepS fuel s,?_,fun _=>by simp;omega⟩;simp[runG,nodeR,Re.op,Re.set,he,hti,hh]
     ·have ho:outs t (.mk 2 set kids mn mx md n neg) i=outsC t kids i:=by rw[outs];simp
      have hcst:costR t (.mk 2 set kids mn mx md n neg) i=1+costRC t kids i:=by rw[costR];simp
      rw[ho]at hx;rw[ho,hcst];obtain⟨d,b,s',e,q,m⟩:=hC hcp next κ hx c _ (GG.cat (by omega) hg1 hkids) hc p1
      refine⟨d+1,b,s',?_,fun hb=>by have:=m hb;omega⟩;simp[runG,nodeR,Re.op,Re.kids,he,e]
     ·have ho:outs t (.mk 3 set kids mn mx md n neg) i=outsA t kids i:=by rw[outs];simp
      have hcst:costR t (.mk 3 set kids mn mx md n neg) i=1+costRA t kids i:=by rw[costR];simp
      rw[ho]at hx;rw[ho,hcst];simp only[Re.kids]at hlen;obtain⟨d,b,s',e,m⟩:=hA hcp next κ hx c _ hg1 hc p1 (by omega)
      refine⟨d+1,b,s',?_,fun hb=>by have:=m hb;omega⟩;simp[runG,nodeR,Re.op,Re.kids,he,e]
     ·exact absurd rfl h4
     ·have ho:outs t (.mk 5 set kids mn mx md n neg) i=outsH t kids i:=by rw[outs];simp
      have hcst:costR t (.mk 5 set kids mn mx md n neg) i=1+costRH t kids i:=by rw[costR];simp
      rw[ho]at hx;rw[ho,hcst];obtain⟨kid,hkid,hgk⟩:=Jo hr rfl;simp only[Re.kids]at hkid;subst hkid;have e1:outsH t [kid] i=outs t kid i:=by rw[outsH]
      have e2:costRH t [kid] i=costR t kid i:=by rw[costRH]
      rw[e1]at hx;rw[e1,e2];obtain⟨d,b,s',e,q,m⟩:=hH hcp (.mk 3 (.mk 5 set [kid] mn mx md n neg) 0 i next) i κ hi (fun j hj=>by
       have hj2:=(CG t kid i hi j hj).2;refine RT.of hj2 fun c s hg hc hs=>?_;obtain⟨g1,g2,g3,g4⟩:=hg;obtain⟨d,b,s',e,q,m⟩:=hx j hj (withI c n i j) s g4 (by rw[Gb];exact hc) hs;refine⟨d+1,b,s',?_,m⟩;rw[runG,if_neg (by decide),if_neg (by decide),if_pos rfl];exact e) c _ ⟨hgk,.inl rfl,⟨Int.le_refl _,by omega⟩,hr,.inr (.inr (.inr ⟨rfl,rfl⟩)),⟨by omega,by omega⟩,hg1⟩ hc p1
      refine⟨d+1,b,s',?_,fun hb=>by have:=m hb;omega⟩;rw[runG,if_neg (by decide),if_neg (by decide),if_neg (by decide),nodeR,if_neg (by exact h4)];simp only;rw[if_neg he];simp only[Re.op,Re.kids,show ¬(5:Int)=1 by decide,show ¬(5:Int)=2 by decide,show ¬(5:Int)=3 by decide,if_false,if_true];exact e
     ·have hcst:costR t (.mk 11 set kids mn mx md n neg) i=1:=by rw[costR];simp
      have ho:outs t (.mk 11 set kids mn mx md n neg) i=if assertI n (befS t i) t[i]?=true then [i] else []:=by rw[outs];simp
      rw[ho]at hx;rw[ho,hcst];by_cases hh:assertI n (befS t i) t[i]?=true
      ·simp only[if_pos hh]at hx |-;obtain⟨d,b,s',e,q,m⟩:=hx i (by simp) c _ hg1 hc p1;refine⟨d+1,b,s',?_,fun hb=>by have:=m hb;simp only[map_cons,map_nil,sum_cons,sum_nil];omega⟩;simp[runG,nodeR,Re.op,Re.n,he,hh,e]
      ·simp only[if_neg hh]at hx |-;refine⟨1,false,stepS fuel s,?_,fun _=>by simp;omega⟩;simp[runG,nodeR,Re.op,Re.n,he,hh]
theorem Mq (caps top:Int) (t:List Int) (fuel:Int):∀ l:List Re,(∀ k∈l,RGood caps top k)->lpL l=true->∀(next:Goal) (i:Nat) (κ:Nat->Nat),i<=t.length ->
  (∀ j∈outsC t l i,RT caps top t fuel next j (κ j))->RT caps top t fuel (catG next l) i (costRC t l i+((outsC t l i).map κ).sum)
 | [],_,_,next,i,κ,hi,hx=>by
   have:=hx i (by simp[outsC])
   simpa [outsC,costRC,catG] using this
 | k::ks,hr,hcp,next,i,κ,hi,hx=>by
   rw[lpL,and_eq_true]at hcp;rw[outsC]at hx |-;rw[costRC,DA,Nat.add_assoc,<- GO,catG];refine JN caps top t fuel k (hr k (by simp)) hcp.1 0 0 _ i _ hi fun j hj=>?_;exact Mq caps top t fuel ks (fun q hq=>hr q (by simp[hq])) hcp.2 next j κ (CG t k i hi j hj).2 fun q hq=>hx q (List.mem_flatMap.2 ⟨j,hj,hq⟩)
theorem Mv (caps top:Int) (t:List Int) (fuel:Int):∀ l:List Re,(∀ k∈l,RGood caps top k)->lpL l=true->∀(next:Goal) (i:Nat) (κ:Nat->Nat),i<=t.length ->
  (∀ j∈outsA t l i,RT caps top t fuel next j (κ j))->∀(c:Caps) (s:SS),GG caps top t.length s.steps next->c.length<=1000->SPre fuel s->(s.ends.length:Int)+l.length<=256*s.steps ->
  ∃ d b s',altR (runG t fuel d) next i c l s=some (b,s')/\(b=false->s'.steps=s.steps+(costRA t l i+((outsA t l i).map κ).sum:Nat))
 | [],_,_,next,i,κ,hi,hx=>fun c s hg hc hs hsl=>⟨0,false,s,rfl,fun _=>by simp[costRA,outsA]⟩
 | k::ks,hr,hcp,next,i,κ,hi,hx=>fun c s hg hc hs hsl=>by
   rw[lpL,and_eq_true]at hcp;rw[outsA]at hx |-;rw[costRA];obtain⟨d1,b1,s1,e1,q1,m1⟩:=JN caps top t fuel k (hr k (by simp)) hcp.1 0 0 next i κ hi (fun j hj=>hx j (List.mem_append_left _ hj)) c s ⟨hr k (by simp),.inl rfl,⟨Int.le_refl _,by omega⟩,hg⟩ hc hs
   cases b1 with
   | true=>exact⟨d1,true,s1,by rw[altR,e1];rfl,fun h=>by cases h⟩
   | false=>
     have a1:=q1.st;have a2:=q1.fu rfl;have a3:=q1.el;have a4:=hs.st;simp only[length_cons]at hsl;obtain⟨d2,b2,s2,e2,m2⟩:=Mv caps top t fuel ks (fun q hq=>hr q (by simp[hq])) hcp.2 next i κ hi (fun j hj=>hx j (List.mem_append_right _ hj)) c s1 (hg.mono a1) hc ⟨q1.eb.symm,⟨by omega,a2⟩,q1.cl,by omega⟩ (by omega)
     refine⟨max d1 d2,b2,s2,?_,fun h=>?_⟩
     ·rw[altR,GQ t fuel (Nat.le_max_left d1 d2) _ _ _ _ _ e1];exact Fq (GQ t fuel (Nat.le_max_right d1 d2)) e2
     ·have a:=m1 rfl;have b:=m2 h;simp only[map_append,List.sum_append];omega
theorem Qx (caps top:Int) (t:List Int) (fuel:Int):∀ l:List Re,(∀ k∈l,RGood caps top k)->lpL l=true->∀(next:Goal) (i:Nat) (κ:Nat->Nat),i<=t.length ->
  match l with
  | []=>True
  | k::_=>(∀ j∈outs t k i,RT caps top t fuel next j (κ j))->RT caps top t fuel (.mk 0 k 0 0 next) i (costR t k i+((outs t k i).map κ).sum)
 | [],_,_,_,_,_,_=>trivial
 | k::ks,hr,hcp,next,i,κ,hi=>fun hx=>by
   rw[lpL,and_eq_true]at hcp;exact JN caps top t fuel k (hr k (by simp)) hcp.1 0 0 next i κ hi hx
end
end Go.Ev
namespace Go.Ev
attribute [local go_sem] evAppend evBin AV.cells AV.ok frzB Av BG bndO bnd evEq eqCells not_false_eq_true not_true_eq_false Af Array.size_empty List.length_append map_append tySzE List.head?_drop Nat.mul_one AR AY AP AS AT Ad
section
theorem f137 (re:Re) (caps:Int) (t:List Int) (fuel:Int) (hw:re.wt<=1000000) (hv:validP ⟨re,caps,false⟩=0) (hl:t.length<=65536) (ht:∀ x∈t,0<=x/\x<=255) (hf:0<=fuel/\fuel<=1000000) (H:List MB) :
  call Pg pol1 96 [patAV ⟨re,caps,false⟩,.sl false (t.map I),I fuel] H=some (I 0,H):=by
 have h52:=f52 ⟨re,caps,false⟩ hw;rw[hv]at h52;have hpl:=Aw ⟨re,caps,false⟩;refine AX Tryz.func96 rfl rfl rfl rfl rfl rfl (fun _=>rfl) (by simp[AV.plainL,AV.plain,AG];exact hpl) rfl ?_ H;have hl8:=AM re;have hget9:(reC re++[I caps,.bool false])[9]?=some (.bool false):=by rw[List.getElem?_append_right (by omega),hl8];rfl
 have htk:List.take 10 (reC re++[I caps,.bool false])=reC re++[I caps,.bool false]:=take_of_length_le (by simp[AM]);have hall:=Au re;simp +contextual (disch:=omega) only[Tryz.f96,dd96,go_sem,simprocAttr,mu96,↓AD,↓AC,↓AB,↓AA,h52,hl8,hget9,htk,hall,all_append];repeat' (first|intro _|apply And.intro|(unfold dOk;kernel_rfl)|exact St.beq_refl _|(show altO _ _ _ _=true;kernel_rfl)|(show (_||_)=true;kernel_rfl)|(show (_&&_)=true;kernel_rfl))
 refine Ae (M:=(mskOf (pol1.mask 96) (pol1.gc 96) (pol1.acts 96) 0 10)) rfl t.length (fun i=>(⟨45,[(9,I i),(8,I 255),(2,I fuel),(1,.sl false (t.map I))],[.row 10 [patAV ⟨re,caps,false⟩] 0]⟩:St)) (fun _=>True) ?_ ?_ trivial _ (by first|rfl|(refine BD rfl (by rfl) (by rfl) (by rfl) ?_ ?_<;>simp[AV.underL,AV.under,MB.under,AE,AH,AG,AF,AI,AK,-map_take]))
 ·intro i hi _;obtain⟨x,hx⟩:∃ x,t[i]?=some x:=⟨_,List.getElem?_eq_getElem hi⟩;have hb:=ht x (List.mem_of_getElem? hx);simp +contextual (disch:=omega) only[Tryz.f96,dd96,go_sem,simprocAttr,mu96,↓AD,↓AC,↓AB,↓AA,hx];repeat' (first|intro _|apply And.intro|(unfold dOk;kernel_rfl)|exact St.beq_refl _|(show altO _ _ _ _=true;kernel_rfl)|(show (_||_)=true;kernel_rfl)|(show (_&&_)=true;kernel_rfl))
  all_goals exact(by first|rfl|(simp[keepT,AV.underL,AV.under,MB.under,AE,AH,AJ,AG,AF,AI,AK,-map_take,-map_replicate,-map_set, *];done))
 ·intro _;simp +contextual (disch:=omega) only[Tryz.f96,dd96,go_sem,simprocAttr,mu96,↓AD,↓AC,↓AB,↓AA];repeat' (first|intro _|apply And.intro|(unfold dOk;kernel_rfl)|exact St.beq_refl _|(show altO _ _ _ _=true;kernel_rfl)|(show (_||_)=true;kernel_rfl)|(show (_&&_)=true;kernel_rfl))
  all_goals exact fzEq rfl rfl
abbrev bare (n:Nat):Caps:=List.replicate n (-1,-1)
theorem f139 (n:Nat) (hn:n<=1000) (H:List MB):call Pg pol1 98 [I n] H=some (capA (bare n),H):=by
 refine AX Tryz.func98 rfl rfl rfl rfl rfl rfl (fun _=>rfl) (by simp[AV.plain,AV.plainL]) (show AV.plain (.sl false _)=true from AF (bare n)) ?_ H;simp +contextual (disch:=omega) only[Tryz.f98,dd98,go_sem,simprocAttr,mu98,↓AD,↓AC,↓AB,↓AA];refine Ae (M:=(mskOf (pol1.mask 98) (pol1.gc 98) (pol1.acts 98) 0 3)) rfl n (fun j=>(⟨15,[(4,I j),(3,.ms 0 2 j 0 j),(0,I n)],[.row 2 ((bare j).map spanAV) 0]⟩:St)) (fun _=>True) ?_ ?_ trivial _ (by first|rfl|(refine BD rfl (by rfl) (by rfl) (by rfl) ?_ ?_<;>simp[AV.underL,AV.under,MB.under,AE,AH,AG,AF,AI,AK,-map_take]))
 ·intro j hj _;have hl:(bare j).length=j:=by simp
  have hs:bare (j+1)=bare j++[(-1,-1)]:=List.replicate_succ';rw[hs];generalize bare j=cs at *;have htk:=DY (f:=spanAV) hl;simp +contextual (disch:=omega) only[Tryz.f98,dd98,go_sem,simprocAttr,mu98,↓AD,↓AC,↓AB,↓AA,hl,htk];repeat' (first|intro _|apply And.intro|(unfold dOk;kernel_rfl)|exact St.beq_refl _|(show altO _ _ _ _=true;kernel_rfl)|(show (_||_)=true;kernel_rfl)|(show (_&&_)=true;kernel_rfl))
  all_goals exact(by first|rfl|(refine Ar (n:=1) (m:=⟨some [4,3,0],some 1,[]⟩) rfl rfl ?_ ?_ ?_<;>first|rfl|(simp[keepT,AV.underL,AV.under,MB.under,AE,AH,AJ,AG,AF,AI,AK,-map_take,-map_replicate,-map_set, *];done)|(simp[keepT,AV.underL,AV.under,MB.under,AE,AH,AJ,AG,AF,AI,AK,-map_take,-map_replicate,-map_set, *];omega)))
 ·intro _;have hl:(bare n).length=n:=by simp
  generalize bare n=cs at *;simp +contextual (disch:=omega) only[Tryz.f98,dd98,go_sem,simprocAttr,mu98,↓AD,↓AC,↓AB,↓AA,hl];simp only[fz];rw[DF (els:=cs.map spanAV) (k:=2) (z:=0) rfl (by simp[hl]) (AF cs)];exact⟨_,rfl⟩
def symJ:List Int:=[97,97,97,98,98,99,97,98,10,32,65,200]
def textT (l:List Int) (n:Nat):List Int:=(List.range n).map fun(i:Nat)=>symJ.getD (pickI l i 12).toNat 0
theorem LY (l:List Int) (n:Nat):textT l (n+1)=textT l n++[symJ.getD (pickI l n 12).toNat 0]:=by simp[textT,List.range_succ]
theorem FN (l:List Int) (n:Nat):(textT l n).length=n:=by simp[textT]
theorem Nr (l:List Int) (n:Nat):∀ x∈textT l n,0<=x/\x<=255:=by
 intro x hx;obtain⟨i,_,rfl⟩:=mem_map.1 hx;have hp:=GR (l:=l) (i:=i) (m:=12) (by omega);generalize (pickI l i 12)=k at hp;have:k=0∨k=1∨k=2∨k=3∨k=4∨k=5∨k=6∨k=7∨k=8∨k=9∨k=10∨k=11:=by omega
 rcases this with rfl|rfl|rfl|rfl|rfl|rfl|rfl|rfl|rfl|rfl|rfl|rfl<;>decide
theorem f122 (l:List Int) (hl:∀ x∈l,In64 x) (H:List MB):call Pg pol1 19 [.sl false (l.map I),I 12] H=some (.sl false ((textT l (min l.length 12)).map I),H):=by
 refine AX Tryz.func19 rfl rfl rfl rfl rfl rfl (fun _=>rfl) (by simp[AV.plain,AV.plainL,AG]) (by simp[AV.plain,AG]) ?_ H;simp +contextual (disch:=omega) only[Tryz.f19,dd19,go_sem,simprocAttr,mu19,↓AD,↓AC,↓AB,↓AA];refine Ae (M:=(mskOf (pol1.mask 19) (pol1.gc 19) (pol1.acts 19) 0 3)) rfl (min l.length 12) (fun j=>(⟨28,[(6,I j),(5,.ms 0 1 j 0 j),(1,I 12),(0,.sl false (l.map I))],[.row 1 ((textT l j).map I) 0]⟩:St)) (fun _=>True) ?_ ?_ trivial _ (by first|rfl|(refine BD rfl (by rfl) (by rfl) (by rfl) ?_ ?_<;>simp[AV.underL,AV.under,MB.under,AE,AH,AG,AF,AI,AK,-map_take]))
 ·intro j hj _;have ht:=FN l j;have h57:=f57 l j 12 hl (by omega);have hp:=GR (l:=l) (i:=j) (m:=12) (by omega);rw[LY];generalize textT l j=cs at *;have htk:=DY (f:=I) ht;generalize pickI l j 12=k at *;obtain⟨v,hv⟩:∃ v,symJ[k.toNat]?=some v:=⟨_,List.getElem?_eq_getElem (by simp[symJ];omega)⟩;rw[List.getD_eq_getElem?_getD,hv,Option.getD_some];obtain⟨k,rfl⟩:∃ n:Nat,k=n:=⟨k.toNat,by omega⟩;have hv2:[I 97,I 97,I 97,I 98,I 98,I 99,I 97,I 98,I 10,I 32,I 65,I 200][k]?=some (I v):=by
   have:symJ.map I=[I 97,I 97,I 97,I 98,I 98,I 99,I 97,I 98,I 10,I 32,I 65,I 200]:=rfl;rw[<- this,List.getElem?_map]
   simpa using congrArg (Option.map I) hv
  have c1:j<l.length:=by omega
  have c2:j<12:=by omega
  simp +contextual (disch:=omega) only[Tryz.f19,dd19,go_sem,simprocAttr,mu19,↓AD,↓AC,↓AB,↓AA,ht,htk,h57,hv2];repeat' (first|intro _|apply And.intro|(unfold dOk;kernel_rfl)|exact St.beq_refl _|(show altO _ _ _ _=true;kernel_rfl)|(show (_||_)=true;kernel_rfl)|(show (_&&_)=true;kernel_rfl))
  all_goals exact(by first|rfl|(refine Ar (n:=1) (m:=⟨some [6,5,1,0],some 1,[]⟩) rfl rfl ?_ ?_ ?_<;>first|rfl|(simp[keepT,AV.underL,AV.under,MB.under,AE,AH,AJ,AG,AF,AI,AK,-map_take,-map_replicate,-map_set, *];done)|(simp[keepT,AV.underL,AV.under,MB.under,AE,AH,AJ,AG,AF,AI,AK,-map_take,-map_replicate,-map_set, *];omega)))
 ·intro _;have ht:=FN l (min l.length 12);generalize textT l (min l.length 12)=cs at *;by_cases c:l.length<12
  ·rw[Nat.min_eq_left (by omega)]at *;simp +contextual (disch:=omega) only[Tryz.f19,dd19,go_sem,simprocAttr,mu19,↓AD,↓AC,↓AB,↓AA,ht];simp only[fz];rw[DF (els:=cs.map I) (k:=1) (z:=0) rfl (by simp[ht]) (AG cs)];exact⟨_,rfl⟩
  ·rw[Nat.min_eq_right (by omega)]at *;by_cases c2:12=l.length
   ·simp +contextual (disch:=omega) only[Tryz.f19,dd19,go_sem,simprocAttr,mu19,↓AD,↓AC,↓AB,↓AA,ht];repeat' (first|intro _|apply And.intro|(unfold dOk;kernel_rfl)|exact St.beq_refl _|(show altO _ _ _ _=true;kernel_rfl)|(show (_||_)=true;kernel_rfl)|(show (_&&_)=true;kernel_rfl))
    all_goals simp only[fz]
    all_goals rw[DF (els:=cs.map I) (k:=1) (z:=0) rfl (by simp[ht]) (AG cs)]
    all_goals exact⟨_,rfl⟩
   ·simp +contextual (disch:=omega) only[Tryz.f19,dd19,go_sem,simprocAttr,mu19,↓AD,↓AC,↓AB,↓AA,ht];repeat' (first|intro _|apply And.intro|(unfold dOk;kernel_rfl)|exact St.beq_refl _|(show altO _ _ _ _=true;kernel_rfl)|(show (_||_)=true;kernel_rfl)|(show (_&&_)=true;kernel_rfl))
    all_goals simp only[fz]
    all_goals rw[DF (els:=cs.map I) (k:=1) (z:=0) rfl (by simp[ht]) (AG cs)]
    all_goals exact⟨_,rfl⟩
end
section
def matsG (at_:Int) (es:List Int) (cs:List Caps) (n:Nat):List AV:=(List.range n).map fun i=>matAV at_ (es.getD i 0) (cs.getD i [])
theorem Lo (at_:Int) (es:List Int) (cs:List Caps) (n:Nat):matsG at_ es cs (n+1)=matsG at_ es cs n++[matAV at_ (es.getD n 0) (cs.getD n [])]:=by simp[matsG,List.range_succ]
theorem Ib (at_:Int) (es:List Int) (cs:List Caps) (n:Nat):(matsG at_ es cs n).length=n:=by simp[matsG]
theorem DC (at_:Int) (es:List Int) (cs:List Caps) (n:Nat):AV.plainL (matsG at_ es cs n)=true:=by
 rw[Ea];intro x hx;obtain⟨i,_,rfl⟩:=mem_map.1 hx;exact FT _ _ _
theorem SW (re:Re) (caps:Int) (t:List Int) (fuel:Int) (hw:re.wt<=1000000) (hv:validP ⟨re,caps,false⟩≠0) (H:List MB) :
  call Pg pol1 96 [patAV ⟨re,caps,false⟩,.sl false (t.map I),I fuel] H=some (I (validP ⟨re,caps,false⟩),H):=by
 have h52:=f52 ⟨re,caps,false⟩ hw;generalize validP ⟨re,caps,false⟩=v at *;have hpl:=Aw ⟨re,caps,false⟩;refine AX Tryz.func96 rfl rfl rfl rfl rfl rfl (fun _=>rfl) (by simp[AV.plainL,AV.plain,AG];exact hpl) rfl ?_ H;have hl8:=AM re;have hget9:(reC re++[I caps,.bool false])[9]?=some (.bool false):=by rw[List.getElem?_append_right (by omega),hl8];rfl
 have htk:List.take 10 (reC re++[I caps,.bool false])=reC re++[I caps,.bool false]:=take_of_length_le (by simp[AM]);have hall:=Au re;simp +contextual (disch:=omega) only[Tryz.f96,dd96,go_sem,simprocAttr,mu96,↓AD,↓AC,↓AB,↓AA,h52,hl8,hget9,htk,hall,all_append];repeat' (first|intro _|apply And.intro|(unfold dOk;kernel_rfl)|exact St.beq_refl _|(show altO _ _ _ _=true;kernel_rfl)|(show (_||_)=true;kernel_rfl)|(show (_&&_)=true;kernel_rfl))
 all_goals exact⟨_,rfl⟩
theorem SX (re:Re) (n:Nat) (t:List Int) (at_:Nat) (fuel:Int) (hw:re.wt<=1000000) (hv:validP ⟨re,n,false⟩≠0) (H:List MB) :
  call Pg pol1 58 [patAV ⟨re,n,false⟩,.sl false (t.map I),I at_,I (-1),I fuel] H=some (.tup [.sl false [],I 0,I (validP ⟨re,n,false⟩)],H):=by
 have h137:=SW re n t fuel hw hv;generalize validP ⟨re,n,false⟩=v at *;have hpl:=Aw ⟨re,n,false⟩;have hl8:=AM re;have htk:List.take 10 (reC re++[I n,.bool false])=reC re++[I n,.bool false]:=take_of_length_le (by simp[AM]);have hall:=Au re;refine AX Tryz.func58 rfl rfl rfl rfl rfl rfl (fun _=>rfl) (by simp[AV.plainL,AV.plain,AG];exact hpl) rfl ?_ H;simp +contextual (disch:=omega) only[Tryz.f58,dd58,go_sem,simprocAttr,mu58,↓AD,↓AC,↓AB,↓AA,h137,hl8,htk,hall,all_append];repeat' (first|intro _|apply And.intro|(unfold dOk;kernel_rfl)|exact St.beq_refl _|(show altO _ _ _ _=true;kernel_rfl)|(show (_||_)=true;kernel_rfl)|(show (_&&_)=true;kernel_rfl))
 all_goals exact⟨_,rfl⟩
theorem f123 (re:Re) (n:Nat) (t:List Int) (at_:Nat) (fuel:Int) (hw:re.wt<=1000000) (hv:validP ⟨re,n,false⟩=0) (hn:n<=1000) (hl:t.length<=65536) (ht:∀ x∈t,0<=x/\x<=255) (hf:0<=fuel/\fuel<=1000000)
  (hr:RGood n 255 re) (hc:lpG re=true) (ha:at_<=t.length) :
  ∃(out:AV) (k e:Int),AV.plain out=true/\(e=0∨e=11)/\(e=0->(costR t re at_:Int)<=fuel)/\∀ H,call Pg pol1 58 [patAV ⟨re,n,false⟩,.sl false (t.map I),I at_,I (-1),I fuel] H=some (.tup [out,I k,I e],H):=by
 have h137:=f137 re n t fuel hw hv hl ht hf;have h139:=f139 n hn;have hs0:SPre fuel (⟨0,false,[],[]⟩:SS):=⟨rfl,⟨Int.le_refl _,hf.1⟩,rfl,by simp⟩;have hg0:GG n 255 t.length (0:Int) (.mk 0 re 0 0 .nil):=⟨hr,.inl rfl,⟨Int.le_refl _,by omega⟩,trivial⟩;obtain⟨d,b,s,hrun,hpost,hst⟩:=JN n 255 t fuel re hr hc 0 0 .nil at_ (fun _=>0) ha (fun j hj=>RT.nil (CG t re at_ ha j hj).2) (bare n) ⟨0,false,[],[]⟩ hg0 (by simp;omega) hs0;have hsum:((outs t re at_).map fun _=>0).sum=0:=by
  induction outs t re at_ with
  | nil=>rfl
  | cons a l ih=>simp[ih]
 rw[hsum]at hst
 have h138:=(Jp [.row 10 [patAV ⟨re,n,false⟩] 0] [] t fuel ⟨0,false,[],[]⟩ 0 (goalC 0 re 0 0 .nil) at_ (bare n) (B5 0 re 0 0 .nil)).trans
  (N4 hl hf d [.row 10 [patAV ⟨re,n,false⟩] 0] [MB.row 12 [.agg (goalC 0 re 0 0 .nil)] 1] (.mk 0 re 0 0 .nil) at_ (bare n) ⟨0,false,[],[]⟩ b s hg0 (by omega) (by omega) (by simp;omega) hs0 hrun)
 have hcl:=hpost.cl;have hel:=hpost.el;have hfu:=hpost.fu;have heb:=hpost.eb;obtain⟨steps,empty,ends,caps⟩:=s;simp only at hcl hel hfu heb hst;simp only[srH,goalC,goalA,sB,length_cons,length_nil,map_nil,List.cons_append,List.nil_append,Nat.reduceAdd,Nat.zero_add]at h138;have hpl:=Aw ⟨re,n,false⟩;have hl8:=AM re;have hget8:(reC re++[I n,.bool false])[8]?=some (I n):=by rw[List.getElem?_append_right (by omega),hl8];rfl
 have htk:List.take 10 (reC re++[I n,.bool false])=reC re++[I n,.bool false]:=take_of_length_le (by simp[AM]);have htk8:∀ l,List.take 8 (reC re++l)=reC re:=fun l=>by
  rw[List.take_append_of_le_length (by omega)];exact take_of_length_le (by omega)
 have hall:=Au re;subst heb;cases b with
 | true=>
   refine⟨.sl false [],0,11,rfl,.inr rfl,fun h=>by omega,?_⟩;refine fun H=>AX Tryz.func58 rfl rfl rfl rfl rfl rfl (fun _=>rfl) (by simp[AV.plainL,AV.plain,AG];exact hpl) rfl ?_ H;simp +contextual (disch:=omega) only[Tryz.f58,dd58,go_sem,simprocAttr,mu58,↓AD,↓AC,↓AB,↓AA,h137,h139,h138,hl8,hget8,htk,htk8,hall,all_append];repeat' (first|intro _|apply And.intro|(unfold dOk;kernel_rfl)|exact St.beq_refl _|(show altO _ _ _ _=true;kernel_rfl)|(show (_||_)=true;kernel_rfl)|(show (_&&_)=true;kernel_rfl))
   all_goals exact⟨_,rfl⟩
 | false=>
   refine⟨.sl false (matsG at_ ends caps ends.length),steps,0,DC _ _ _ _,.inl rfl,fun _=>by have:=hst rfl;have:=hfu rfl;omega,?_⟩;refine fun H=>AX Tryz.func58 rfl rfl rfl rfl rfl rfl (fun _=>rfl) (by simp[AV.plainL,AV.plain,AG];exact hpl) (by simp[AV.plain,AV.plainL,DC]) ?_ H;simp +contextual (disch:=omega) only[Tryz.f58,dd58,go_sem,simprocAttr,mu58,↓AD,↓AC,↓AB,↓AA,h137,h139,h138,hl8,hget8,htk,htk8,hall,all_append];repeat' (first|intro _|apply And.intro|(unfold dOk;kernel_rfl)|exact St.beq_refl _|(show altO _ _ _ _=true;kernel_rfl)|(show (_||_)=true;kernel_rfl)|(show (_&&_)=true;kernel_rfl))
   have u1:∀ m,AV.underL m (reC re)=true:=fun m=>AE _ _ (AZ re);have hE:ends.length<=300000000:=by have:=hfu rfl;simp only[length_nil]at hel;omega
   refine Ae (M:=(mskOf (pol1.mask 58) (pol1.gc 58) (pol1.acts 58) 0 12)) rfl ends.length (fun j=>(⟨84,[(16,I j),(15,.ms 5 3 j 0 j),(14,.rf 1 1 0 0),(2,I at_)],[.row 10 [patAV ⟨re,n,false⟩] 0,
    .row 7 [.agg [.sl false (t.map I),I (-1),I fuel,I steps,.bool false,.ms 2 1 ends.length 0 ends.length,.ms 3 1 ends.length 0 ends.length]] 0,.row 1 (ends.map I) 0,.row 1 (caps.map capA) 0,
    .row 12 [.agg (goalC 0 re 0 0 .nil)] 1,.row 3 (matsG at_ ends caps j) 0]⟩:St)) (fun _=>True) ?_ ?_ trivial _ ?_
   ·intro j hj _;obtain⟨a,ha⟩:∃ a,ends[j]?=some a:=⟨_,List.getElem?_eq_getElem (by omega)⟩;obtain⟨c,hc⟩:∃ c,caps[j]?=some c:=⟨_,List.getElem?_eq_getElem (by omega)⟩;have hm:=Ib at_ ends caps j;have hpm:=DC at_ ends caps j;rw[Lo,List.getD_eq_getElem?_getD,List.getD_eq_getElem?_getD,ha,hc];simp only[Option.getD_some];generalize matsG at_ ends caps j=ms at *;have htk:List.take j ms=ms:=take_of_length_le (by omega);simp +contextual (disch:=omega) only[Tryz.f58,dd58,go_sem,simprocAttr,mu58,↓AD,↓AC,↓AB,↓AA,ha,hc,hm,hcl,matAV,htk];repeat' (first|intro _|apply And.intro|(unfold dOk;kernel_rfl)|exact St.beq_refl _|(show altO _ _ _ _=true;kernel_rfl)|(show (_||_)=true;kernel_rfl)|(show (_&&_)=true;kernel_rfl))
    all_goals (refine Ar (n:=6) (m:=⟨some [16,15,14,2],some 6,[]⟩) rfl rfl ?_ ?_ ?_<;>simp[keepT,AV.underL,AV.under,MB.under,AE,AH,AJ,AG,AF,-map_take,u1,EZ,hpm,htk]<;>rfl)
   ·intro _;have hm:=Ib at_ ends caps ends.length;have hpm:=DC at_ ends caps ends.length;generalize matsG at_ ends caps ends.length=ms at *;simp +contextual (disch:=omega) only[Tryz.f58,dd58,go_sem,simprocAttr,mu58,↓AD,↓AC,↓AB,↓AA,hm];repeat' (first|intro _|apply And.intro|(unfold dOk;kernel_rfl)|exact St.beq_refl _|(show altO _ _ _ _=true;kernel_rfl)|(show (_||_)=true;kernel_rfl)|(show (_&&_)=true;kernel_rfl))
    simp only[fz,JX,fzL,GW];rw[DF (els:=ms) (k:=3) (z:=0) rfl hm hpm];exact⟨_,rfl⟩
   ·refine BD rfl (by rfl) (by rfl) (by rfl) ?_ ?_<;>simp[AV.underL,AV.under,MB.under,AE,AH,AG,AF,EZ,AJ,u1,-map_take]
    all_goals exact⟨rfl,rfl⟩
end
section
def g0:Prg:=⟨[⟨2,1,3,0,[]⟩,⟨1,0,0,0,[(97,97)]⟩,⟨3,4,0,0,[]⟩,⟨1,0,0,0,[(98,98)]⟩,⟨2,5,10,0,[]⟩,⟨2,6,8,0,[]⟩,⟨1,0,0,0,[(97,97)]⟩,⟨3,9,0,0,[]⟩,⟨1,0,0,0,[(98,98)]⟩,⟨3,4,0,0,[]⟩,⟨0,0,0,0,[]⟩],0,false⟩
end
section
theorem BJ (r:Re):(reC r).drop 8=[]:=List.drop_of_length_le (by rw[AM];omega)
theorem Ml (j:List AV->List MB->Option (List AV×List MB)) (a:Bool) {xs:List AV} (H:List MB) (hp:AV.plainL xs=true):fzA j (.sl a xs) H=some (.sl false xs,H):=by
 unfold fzA;rw[BO j xs H hp]
theorem Mi (a b:Bool) (op:Int) (set:List (Int×Int)) (kids:List Re) (mn mx md n:Int) (neg:Bool) (H:List MB) :
  fz (.agg [I op,.sl a (set.map spanAV),.sl b (kids.map reAV),I mn,I mx,I md,I n,.bool neg]) H=some (.agg [I op,.sl false (set.map spanAV),.sl false (kids.map reAV),I mn,I mx,I md,I n,.bool neg],H):=by
 simp only[fz,JZ,fzL,Ml _ _ _ (AF set),Ml _ _ _ (AN kids),GW];rfl
end
section
theorem B4 (r:Re):AV.plain (reAV r)=true:=AZ r
structure MS where
 at_:Int
 left:Int
 caps:Int
abbrev mkAV (l:List Int) (uses:Int) (s:MS):AV:=.agg [.sl false (l.map I),I s.at_,I uses,I s.left,I s.caps]
abbrev mH (b0:MB) (l:List Int) (uses:Int) (s:MS) (K:List MB):List MB:=b0::.row 5 [mkAV l uses s] 0::K
def nx (l:List Int) (n:Int) (s:MS):Int×MS:=(pickI l s.at_ n,⟨s.at_+1,s.left,s.caps⟩)
theorem Mf (n:Nat) (b0 x y:MB) (K L:List MB) (h:MB.under n y=true):keptOk n (b0::x::K) (b0::y::(K++L))=true:=by
 simp only[keptOk,MB.beq_refl,h,Bool.true_or,Bool.or_true,Bool.true_and];exact Bu n L K
theorem Lh {f:Nat} (hk:pol1.keep f=false) (ho:pol1.own f=false) {l:List Int}{uses:Int}{s s':MS}{b0:MB}{K L:List MB}{r r':AV} (hz:∀ H,fz r H=some (r',H)) (hp:AV.plain r' = true) :
  retPol pol1 f (mH b0 l uses s K) r (mH b0 l uses s' (K++L))=some (r',mH b0 l uses s' K):=by
 have h1:=Mf (mH b0 l uses s K).length b0 (.row 5 [mkAV l uses s] 0) (.row 5 [mkAV l uses s'] 0) K L (by simp[MB.under,AV.underL,AV.under,AE,AG]);unfold retPol;rw[if_neg (by rw[hk];exact Bool.false_ne_true),if_neg (by rw[ho];exact Bool.false_ne_true)];simp only[hz,AH _ _ hp,h1,and_self,if_true];simp
theorem Ph {f:Nat} (hk:pol1.keep f=false) (ho:pol1.own f=false) {l:List Int}{uses:Int}{s s':MS}{b0:MB}{K:List MB}{r r':AV} (hz:∀ H,fz r H=some (r',H)) (hp:AV.plain r' = true) :
  retPol pol1 f (mH b0 l uses s K) r (mH b0 l uses s' K)=some (r',mH b0 l uses s' K):=by
 have:=Lh (L:=[]) hk ho (s:=s) (s':=s') (K:=K) (l:=l) (uses:=uses) (b0:=b0) hz hp
 rwa [List.append_nil]at this
theorem f97 (l:List Int) (hl:∀ x∈l,In64 x) (uses n:Int) (hn:n≠0) (s:MS) (hs:0<=s.at_/\s.at_<=1000000) (b0:MB) (K:List MB) :
  call Pg pol1 126 [.rf 1 1 0 0,I n] (mH b0 l uses s K)=some (I (nx l n s).1,mH b0 l uses (nx l n s).2 K):=by
 obtain⟨at_,left,caps⟩:=s;simp only at hs;have h57:=f57 l at_ n hl hn;have fr:frzArgs pol1 126 0 [.rf 1 1 0 0,I n] (mH b0 l uses ⟨at_,left,caps⟩ K)=some ([.rf 1 1 0 0,I n],mH b0 l uses ⟨at_,left,caps⟩ K):=AL _ _ _ rfl;refine AO (pol:=pol1) Tryz.func126 rfl rfl rfl rfl fr ?_;have hsub:at_+1-1=at_:=by omega
 simp +contextual (disch:=omega) only[Tryz.f126,So,go_sem,simprocAttr,SF,↓AD,↓AC,↓AB,↓AA,h57,hsub];repeat' (first|intro _|apply And.intro|(unfold dOk;kernel_rfl)|exact St.beq_refl _|(show altO _ _ _ _=true;kernel_rfl)|(show (_||_)=true;kernel_rfl)|(show (_&&_)=true;kernel_rfl))
 exact Ph (s:=⟨at_,left,caps⟩) (s':=⟨at_+1,left,caps⟩) rfl rfl (fun H=>rfl) rfl
def smallS:List (List (Int×Int)):=[[(97,97)],[(98,98)],[(97,98)],[(99,99)],[(97,99)],[(0,96),(98,255)],[(10,10),(97,97)],[]]
def setM (l:List Int) (s:MS):Re×MS:=(.mk 1 (smallS.getD ((pickI l s.at_ 15).tdiv 2).toNat []) [] 0 0 0 0 false,⟨s.at_+1,s.left,s.caps⟩)
theorem f98 (l:List Int) (hl:∀ x∈l,In64 x) (uses:Int) (s:MS) (hs:0<=s.at_/\s.at_<=1000000) (b0:MB) (K:List MB) :
  call Pg pol1 127 [.rf 1 1 0 0] (mH b0 l uses s K)=some (reAV (setM l s).1,mH b0 l uses (setM l s).2 K):=by
 obtain⟨at_,left,caps⟩:=s;have h97:=fun K=>f97 l hl uses 15 (by omega) ⟨at_,left,caps⟩ hs b0 K;have fr:frzArgs pol1 127 0 [.rf 1 1 0 0] (mH b0 l uses ⟨at_,left,caps⟩ K)=some ([.rf 1 1 0 0],mH b0 l uses ⟨at_,left,caps⟩ K):=AL _ _ _ rfl;have hp:=GR (l:=l) (i:=at_) (m:=15) (by omega);simp only[nx]at h97;unfold setM;simp only;generalize pickI l at_ 15=k at *;obtain⟨j,hj,hk⟩:∃ j:Nat,j<8/\k.tdiv 2=j:=⟨(k.tdiv 2).toNat,by rw[Int.tdiv_eq_ediv_of_nonneg hp.1];omega,by rw[Int.tdiv_eq_ediv_of_nonneg hp.1];omega⟩;have hw:IntKind.i64.wrap (k.tdiv 2)=(j:Int):=by rw[hk];exact i64_in _ ⟨by omega,by omega⟩
 rw[hk,Int.toNat_natCast];obtain⟨set,hset,hsj⟩:∃ set,[AV.sl true [.agg [I 97,I 97]],.sl true [.agg [I 98,I 98]],.sl true [.agg [I 97,I 98]],.sl true [.agg [I 99,I 99]],.sl true [.agg [I 97,I 99]],.sl true [.agg [I 0,I 96],.agg [I 98,I 255]],.sl true [.agg [I 10,I 10],.agg [I 97,I 97]],.sl true []][j]?=some (.sl true (set.map spanAV))/\smallS.getD j []=set:=by
  have:j=0∨j=1∨j=2∨j=3∨j=4∨j=5∨j=6∨j=7:=by omega
  rcases this with rfl|rfl|rfl|rfl|rfl|rfl|rfl|rfl<;>exact⟨_,rfl,rfl⟩
 rw[hsj];refine AO (pol:=pol1) Tryz.func127 rfl rfl rfl rfl fr ?_;simp +contextual (disch:=omega) only[Tryz.f127,Sn,go_sem,simprocAttr,SE,↓AD,↓AC,↓AB,↓AA,h97,hw,hset,Ai,Aq];exact Lh (s:=⟨at_,left,caps⟩) (s':=⟨at_+1,left,caps⟩) rfl rfl (Mi true true 1 set [] 0 0 0 0 false) (B4 _)
def andI (a b:Int):Int:=IntKind.i64.wrap ((BitVec.ofInt 64 a &&& BitVec.ofInt 64 b).toNat)
theorem Bd (a b:Int):evBin .and .i64 a b=some (.int .i64 (andI a b)):=rfl
def stK (l:List Int) (tr:MS->Re×MS) (s:MS):Nat->List Re×MS
 | 0=>([],s)
 | i+1=>((stK l tr s i).1++[(tr (nx l 2 (stK l tr s i).2).2).1],(tr (nx l 2 (stK l tr s i).2).2).2)
def kidsF (l:List Int) (tr:MS->Re×MS) (s:MS):List Re×MS:=
 if(nx l 2 (stK l tr s 2).2).1=1 then((stK l tr s 3).1,(nx l 2 (stK l tr s 3).2).2) else((stK l tr s 2).1,(nx l 2 (stK l tr s 2).2).2)
def repF (l:List Int) (uses:Int) (tr:MS->Re×MS) (s:MS):Re×MS:=
 let k:=nx l 12 s
 let md:=nx l 2 k.2
 let m:Int×MS:=if 0<andI uses 8 then(if(nx l 4 md.2).1=0 then 2 else md.1,(nx l 4 md.2).2) else md
 let kid:=tr m.2
 let r:=if andI uses 32=0/\nullG kid.1=true then setM l kid.2 else kid
 (.mk 4 [] [r.1] (([0,0,0,0,1,1,1,0,2,0,1,2]:List Int).getD k.1.toNat 0) (([-1,-1,-1,1,-1,-1,2,2,2,3,1,-1]:List Int).getD k.1.toNat 0) m.1 0 false,r.2)
def capF (l:List Int) (tr:MS->Re×MS) (s:MS):Re×MS:=
 let p:Bool×MS:=if 4<s.caps+1 then(true,s) else if 0<s.caps then(decide ((nx l 9 s).1=0),(nx l 9 s).2) else(false,s)
 let q:Int×MS:=if p.1=true then(1+(nx l (max 1 p.2.caps) p.2).1,(nx l (max 1 p.2.caps) p.2).2) else(s.caps+1,p.2)
 let kid:=tr ⟨q.2.at_,q.2.left,max q.2.caps q.1⟩
 (.mk 5 [] [kid.1] 0 0 0 q.1 false,kid.2)
def leafF (l:List Int) (k:Int) (s:MS):Re×MS:=if k=0 then(.mk 0 [] [] 0 0 0 0 false,s) else setM l s
def treeStep (l:List Int) (uses:Int) (tr:MS->Re×MS) (k:Int) (s:MS):Re×MS:=
 if s.left<3∨(l.length:Int)<s.at_ then leafF l k s
 else if k<5 then(.mk 2 [] (kidsF l tr s).1 0 0 0 0 false,(kidsF l tr s).2)
 else if k<8 then(.mk 3 [] (kidsF l tr s).1 0 0 0 0 false,(kidsF l tr s).2)
 else if k<12 then repF l uses tr s
 else if(k=12∨k=13)/\0<andI uses 64 then capF l tr s
 else if k=14/\0<andI uses 16 then(.mk 11 [] [] 0 0 0 (nx l 6 s).1 false,(nx l 6 s).2)
 else if k=15/\0<andI uses 4 then
  (.mk (7+(nx l 2 (nx l 3 s).2).1) [] [(tr (nx l 2 (nx l 3 s).2).2).1] 0 0 0 0 ((nx l 3 s).1==0),(tr (nx l 2 (nx l 3 s).2).2).2)
 else if k=16/\0<andI uses 8 then(.mk 9 [] [(tr s).1] 0 0 0 0 false,(tr s).2)
 else if k=17/\0<andI uses 1/\0<s.caps then(.mk 6 [] [] 0 0 0 (1+(nx l s.caps s).1) false,(nx l s.caps s).2)
 else if k=18/\0<andI uses 2/\0<s.caps then
  (.mk 10 [] [(tr (nx l s.caps s).2).1,(tr (tr (nx l s.caps s).2).2).1] 0 0 0 (1+(nx l s.caps s).1) false,(tr (tr (nx l s.caps s).2).2).2)
 else setM l s
def treeF (l:List Int) (uses:Int):Nat->MS->Re×MS
 | 0,s=>leafF l (nx l 20 ⟨s.at_,s.left-1,s.caps⟩).1 (nx l 20 ⟨s.at_,s.left-1,s.caps⟩).2
 | d+1,s=>treeStep l uses (treeF l uses d) (nx l 20 ⟨s.at_,s.left-1,s.caps⟩).1 (nx l 20 ⟨s.at_,s.left-1,s.caps⟩).2
def mA1:Nat->Int
 | 0=>3
 | d+1=>9+3*mA1 d
def mS1:Nat->Int
 | 0=>1
 | d+1=>1+3*mS1 d
structure Pre (A S:Int) (s:MS):Prop where
 a:0<=s.at_/\s.at_+A<=1000000
 l:-1000000<=s.left-S/\s.left<=1000000
 c:0<=s.caps/\s.caps<=4
structure Post (A S:Int) (s s':MS):Prop where
 a:s.at_<=s'.at_/\s'.at_<=s.at_+A
 l:s.left-S<=s'.left/\s'.left<=s.left
 c:0<=s'.caps/\s'.caps<=4
theorem Bl (l:List Int) {n:Int} (hn:0<n) (s:MS):0<=(nx l n s).1/\(nx l n s).1<n:=GR hn
theorem Q7 {H:List MB}{i n z:Nat}{els:List AV}{y:AV}{t:Bool} (hi:getRow H i=some (8,els,z)) (hn:els.length=n) (hy:(decide (y.cells.length=8)&&y.cells.all AV.ok)=true) (hz:z<=n) (hr:n+1<=4000000000) :
  evAppend Pg H 24 24 (.ms i 8 n 0 n) (.sl t [y])=some (.ms i 8 (n+1) 0 (n+1),H.set i (.row 8 (els++[y]) z)):=by
 have hs:srcElems Pg H 26 (.sl t [y])=some [y]:=rfl;rw[B6 (e:=26) (by kernel_rfl) (by kernel_rfl) (k:=8) (by kernel_rfl) (by_:=96) (by kernel_rfl) (ze:=.agg [I 0,.sl true [],.sl true [],I 0,I 0,I 0,I 0,.bool false]) (by kernel_rfl) rfl (by omega) hs (by simp only[List.all_cons,List.all_nil,hy,Bool.and_true]) hi hn hz (Ad hr (by omega))];rfl
theorem N5 {f:Nat} (hk:pol1.keep f=false) (ho:pol1.own f=false) {l:List Int}{uses:Int}{s s':MS}{b0:MB}{K:List MB}{ks:List Re}{n:Nat} (hn:ks.length=n) :
  retPol pol1 f (mH b0 l uses s K) (.ms (K.length+1+1) 8 n 0 n) (mH b0 l uses s' (K++[.row 8 (ks.map reAV) 0]))=some (.sl false (ks.map reAV),mH b0 l uses s' K):=by
 have hr:getRow (mH b0 l uses s' (K++[.row 8 (ks.map reAV) 0])) (K.length+1+1)=some (8,ks.map reAV,0):=by
  simp[getRow]
 have hz:fz (.ms (K.length+1+1) 8 n 0 n) (mH b0 l uses s' (K++[.row 8 (ks.map reAV) 0]))=some (.sl false (ks.map reAV),mH b0 l uses s' (K++[.row 8 (ks.map reAV) n])):=by
  rw[De hr (by rw[List.length_map];exact hn) (AN ks)];unfold mark;rw[hr];simp[Aq]
 have h1:=Mf (mH b0 l uses s K).length b0 (.row 5 [mkAV l uses s] 0) (.row 5 [mkAV l uses s'] 0) K [.row 8 (ks.map reAV) n] (by simp[MB.under,AV.underL,AV.under,AE,AG]);unfold retPol;rw[if_neg (by rw[hk];exact Bool.false_ne_true),if_neg (by rw[ho];exact Bool.false_ne_true)];simp only[hz,AV.under,AE _ _ (AN ks),h1,and_self,if_true];simp
abbrev TreeLaw (l:List Int) (uses:Int) (d:Nat):Prop:=∀(s:MS) (b0:MB) (K:List MB),Pre (mA1 d) (mS1 d) s->call Pg pol1 95 [.rf 1 1 0 0,I d] (mH b0 l uses s K)=some (reAV (treeF l uses d s).1,mH b0 l uses (treeF l uses d s).2 K)
abbrev TreeB (l:List Int) (uses:Int) (d:Nat):Prop:=∀ s:MS,Pre (mA1 d) (mS1 d) s->Post (mA1 d) (mS1 d) s (treeF l uses d s).2
theorem Bf:∀ d,3<=mA1 d
 | 0=>by simp[mA1]
 | d+1=>by have:=Bf d;simp only[mA1];omega
theorem Be:∀ d,1<=mS1 d
 | 0=>by simp[mS1]
 | d+1=>by have:=Be d;simp only[mS1];omega
theorem Pre.step {A S:Int}{s s':MS}{A' S' x y:Int} (h:Pre A S s) (p:Post x y s s') (ha:A' + x<=A) (hs:S' + y<=S):Pre A' S' s':=by
 obtain⟨h1,h2,h3⟩:=h;obtain⟨p1,p2,p3⟩:=p;exact⟨by omega,by omega,p3⟩
theorem Post.trans {s s' s'':MS}{x y x' y':Int} (p:Post x y s s') (q:Post x' y' s' s''):Post (x+x') (y+y') s s'':=by
 obtain⟨p1,p2,p3⟩:=p;obtain⟨q1,q2,q3⟩:=q;exact⟨by omega,by omega,q3⟩
theorem Post.up {s s':MS}{x y x' y':Int} (p:Post x y s s') (hx:x<=x') (hy:y<=y'):Post x' y' s s':=by
 obtain⟨p1,p2,p3⟩:=p;exact⟨by omega,by omega,p3⟩
theorem At (l:List Int) (n:Int) (s:MS) (hc:0<=s.caps/\s.caps<=4):Post 1 0 s (nx l n s).2:=⟨by simp only[nx];omega,by simp only[nx];omega,hc⟩
theorem EA (l:List Int) (s:MS) (hc:0<=s.caps/\s.caps<=4):Post 1 0 s (setM l s).2:=⟨by simp only[setM];omega,by simp only[setM];omega,hc⟩
theorem Ez {l:List Int}{uses:Int}{d:Nat} (hb:TreeB l uses d) {s:MS} (hp:Pre (5+3*mA1 d) (3*mS1 d) s):∀ i:Nat,i<=3->Post (i+i*mA1 d) (i*mS1 d) s (stK l (treeF l uses d) s i).2
 | 0,_=>⟨by simp[stK],by simp[stK],by simpa [stK] using hp.c⟩
 | i+1,hi=>by
   have p:=Ez hb hp i (by omega);have:=Bf d;have:=Be d;have e1:((i+1:Nat):Int)*mA1 d=i*mA1 d+mA1 d:=by rw[Int.natCast_add,Int.add_mul];simp
   have e2:((i+1:Nat):Int)*mS1 d=i*mS1 d+mS1 d:=by rw[Int.natCast_add,Int.add_mul];simp
   have e3:(i:Int)*mA1 d<=2*mA1 d:=Int.mul_le_mul_of_nonneg_right (by omega) (by omega);have e4:(i:Int)*mS1 d<=2*mS1 d:=Int.mul_le_mul_of_nonneg_right (by omega) (by omega);have q:=p.trans (At l 2 _ p.c);have r:=hb _ (hp.step q (by omega) (by omega));refine(q.trans r).up (by omega) (by omega)
theorem G8 {l:List Int}{uses:Int}{d:Nat} (hb:TreeB l uses d) {s:MS} (hp:Pre (5+3*mA1 d) (3*mS1 d) s):Post (5+3*mA1 d) (3*mS1 d) s (kidsF l (treeF l uses d) s).2:=by
 have p2:=Ez hb hp 2 (by omega);have p3:=Ez hb hp 3 (by omega);have:=Bf d;have:=Be d;unfold kidsF;split
 ·exact(p3.trans (At l 2 _ p3.c)).up (by omega) (by omega)
 ·exact(p2.trans (At l 2 _ p2.c)).up (by omega) (by omega)
theorem ML (l:List Int) (tr:MS->Re×MS) (s:MS):∀ i,(stK l tr s i).1.length=i
 | 0=>rfl
 | i+1=>by simp[stK,ML l tr s i]
def mW1:Nat->Nat
 | 0=>3
 | d+1=>1+3*mW1 d
theorem Md:∀ d,3<=mW1 d
 | 0=>by simp[mW1]
 | d+1=>by have:=Md d;simp only[mW1];omega
theorem Le (j:Nat):(smallS.getD j []).length<=2:=by
 rw[List.getD_eq_getElem?_getD];cases h:smallS[j]? with
 | none=>simp
 | some x=>
   have hm:=List.mem_of_getElem? h;have:∀ x∈smallS,x.length<=2:=by decide
   exact this x hm
theorem JF (l:List Int) (s:MS):(setM l s).1.wt<=3:=by
 have:=Le ((pickI l s.at_ 15).tdiv 2).toNat;simp only[setM,Re.wt,Re.wtL];omega
theorem KZ (l:List Int) (k:Int) (s:MS):(leafF l k s).1.wt<=3:=by
 unfold leafF;split
 ·simp[Re.wt,Re.wtL]
 ·exact JF l s
theorem Re.wtL_append:∀(a b:List Re),Re.wtL (a++b)=Re.wtL a+Re.wtL b
 | [],b=>by simp[Re.wtL]
 | k::ks,b=>by simp[Re.wtL,Re.wtL_append ks b];omega
theorem La {l:List Int}{tr:MS->Re×MS}{W:Nat} (h:∀ s,(tr s).1.wt<=W) (s:MS):∀ i,Re.wtL (stK l tr s i).1<=i*W
 | 0=>by simp[stK,Re.wtL]
 | i+1=>by
   have h1:=La (l:=l) h s i;have h2:=h (nx l 2 (stK l tr s i).2).2;simp only[stK,Re.wtL_append,Re.wtL,Nat.add_mul];omega
theorem OY {l:List Int}{tr:MS->Re×MS}{W:Nat} (h:∀ s,(tr s).1.wt<=W) (s:MS):Re.wtL (kidsF l tr s).1<=3*W:=by
 have h2:=La (l:=l) h s 2;have h3:=La (l:=l) h s 3;unfold kidsF;split
 ·exact h3
 ·simp only;omega
theorem Gj (l:List Int) (uses:Int):∀(d:Nat) (s:MS),(treeF l uses d s).1.wt<=mW1 d
 | 0,s=>KZ l _ _
 | d+1,s=>by
   have h:=Gj l uses d;have hp:=Md d;simp only[treeF,mW1];generalize (nx l 20 ⟨s.at_,s.left-1,s.caps⟩).1=k;generalize (nx l 20 ⟨s.at_,s.left-1,s.caps⟩).2=s1;have hk:=OY (l:=l) h s1;have hl:=KZ l k s1;have hs:=JF l s1;generalize treeF l uses d=tr at *;have key:∀(c:Prop) [Decidable c] (x:Re×MS),x.1.wt<=mW1 d->(if c then setM l x.2 else x).1.wt<=mW1 d:=by
    intro c _ x hx;have:=JF l x.2;split
    ·omega
    ·exact hx
   have hr:(repF l uses tr s1).1.wt<=1+3*mW1 d:=by
    unfold repF;simp only[Re.wt,Re.wtL,length_nil];exact Nat.le_trans (Nat.add_le_add_left (Nat.add_le_add_right (key _ _ (h _)) 0) _) (by omega)
   have hc:(capF l tr s1).1.wt<=1+3*mW1 d:=by
    unfold capF;simp only[Re.wt,Re.wtL,length_nil];have:∀ s,(tr s).1.wt<=mW1 d:=h;refine Nat.le_trans (Nat.add_le_add_left (Nat.add_le_add_right (this _) 0) _) (by omega)
   unfold treeStep;repeat' split
   all_goals first|omega|(simp only[Re.wt,Re.wtL,length_nil];first|omega|(have:=h s1;omega)|(have:=h (nx l 2 (nx l 3 s1).2).2;omega)|(have:=h (nx l s1.caps s1).2;have:=h (tr (nx l s1.caps s1).2).2;omega))
end
mutual
def genG (cap:Bool):Re->Bool
 | .mk op set kids mn mx md n neg=>(decide (op=0∨op=1∨op=2∨op=3∨op=4∨op=11)||(cap&&decide (op=5)))&&decide (md=0∨md=1)&&!(decide (op=4)&&nullHd kids)&&genL cap kids
def genL (cap:Bool):List Re->Bool
 | []=>true
 | k::ks=>genG cap k&&genL cap ks
end
theorem HG (cap:Bool):∀ l:List Re,genL cap l=true↔∀ k∈l,genG cap k=true
 | []=>by simp[genL]
 | k::ks=>by simp[genL,HG cap ks]
mutual
theorem Ij (cap:Bool):∀ r:Re,genG cap r=true->codable r=true/\noPoss r=true/\lpG r=true
 | .mk op set kids mn mx md n neg,h=>by
   simp only[genG,and_eq_true,or_eq_true,decide_eq_true_eq]at h;obtain⟨a,b,c⟩:=HI cap kids h.2;refine⟨?_,?_,?_⟩
   ·rw[codable,a,Bool.and_true,or_eq_true,decide_eq_true_eq,beq_iff_eq];omega
   ·rw[noPoss,b,Bool.and_true,decide_eq_true_eq];omega
   ·rw[lpG,c,Bool.and_true];exact h.1.2
theorem HI (cap:Bool):∀ l:List Re,genL cap l=true->codableL l=true/\noPossL l=true/\lpL l=true
 | [],_=>⟨rfl,rfl,rfl⟩
 | k::ks,h=>by
   rw[genL,and_eq_true]at h;obtain⟨a,b,c⟩:=Ij cap k h.1;obtain⟨a',b',c'⟩:=HI cap ks h.2;exact⟨by rw[codableL,a,a'];rfl,by rw[noPossL,b,b'];rfl,by rw[lpL,c,c'];rfl⟩
end
mutual
theorem HF:∀(r:Re) (ins:List Int),genG false r=true->compG ins r=true
 | .mk op set kids mn mx md n neg,ins,h=>by
   simp only[genG,and_eq_true,or_eq_true,decide_eq_true_eq,Bool.false_and,Bool.false_eq_true,or_false]at h;have hk:=Ik kids ins h.2;have h4:=h.1.2;rw[compG,if_neg,if_neg (by omega),if_neg (by omega)]
   ·exact hk
   ·rintro⟨rfl,h5|h5⟩
    ·omega
    ·rw[h5]at h4;simp at h4
theorem Ik:∀(l:List Re) (ins:List Int),genL false l=true->compL ins l=true
 | [],_,_=>rfl
 | k::ks,ins,h=>by
   rw[genL,and_eq_true]at h;rw[compL,HF k ins h.1,Ik ks ins h.2];rfl
end
theorem JE {P:Re->Prop} (l:List Int) {tr:MS->Re×MS} (h:∀ s,P (tr s).1) (s:MS):∀ i,∀ k∈(stK l tr s i).1,P k
 | 0,k,hk=>by simp[stK]at hk
 | i+1,k,hk=>by
   rw[stK]at hk;rcases List.mem_append.1 hk with hk|hk
   ·exact JE l h s i k hk
   ·rw[List.mem_singleton.1 hk];exact h _
theorem Gk (l:List Int) (tr:MS->Re×MS) (s:MS):∀ i,(stK l tr s i).1.length=i
 | 0=>rfl
 | i+1=>by rw[stK,List.length_append,Gk l tr s i];rfl
theorem FZ {P:Re->Prop} (l:List Int) {tr:MS->Re×MS} (h:∀ s,P (tr s).1) (s:MS):(∀ k∈(kidsF l tr s).1,P k)/\(kidsF l tr s).1.length<=3/\2<=(kidsF l tr s).1.length:=by
 unfold kidsF;split
 ·exact⟨JE l h s 3,by rw[Gk];omega,by rw[Gk];omega⟩
 ·exact⟨JE l h s 2,by rw[Gk];omega,by rw[Gk];omega⟩
theorem GV (cap:Bool) (l:List Int) (s:MS):genG cap (setM l s).1=true:=by
 simp[setM,genG,genL]
theorem KT (l:List Int) (s:MS):nullG (setM l s).1=false:=by
 unfold setM;simp only;rw[nullG];simp
structure Uses (uses:Int):Prop where
 u1:¬ 0<andI uses 1
 u2:¬ 0<andI uses 2
 u4:¬ 0<andI uses 4
 u8:¬ 0<andI uses 8
 u32:andI uses 32=0
theorem Qj:Uses 80:=⟨by decide,by decide,by decide,by decide,by decide⟩
theorem Ql:Uses 16:=⟨by decide,by decide,by decide,by decide,by decide⟩
theorem Jz {uses:Int} (hu:Uses uses) (l:List Int):∀ d s,genG (decide (0<andI uses 64)) (treeF l uses d s).1=true
 | 0,s=>by
   rw[treeF];unfold leafF;split
   ·simp[genG,genL]
   ·exact GV _ l _
 | d+1,s=>by
   have ih:=Jz hu l d;have hk:=fun s=>FZ (P:=fun k=>genG (decide (0<andI uses 64)) k=true) l ih s;rw[treeF];generalize nx l 20 ⟨s.at_,s.left-1,s.caps⟩=Y;obtain⟨k,s1⟩:=Y;unfold treeStep;simp only;split
   ·unfold leafF;split
    ·simp[genG,genL]
    ·exact GV _ l _
   split
   ·have:=(HG (decide (0<andI uses 64)) _).2 (hk s1).1;simp[genG,this]
   split
   ·have:=(HG (decide (0<andI uses 64)) _).2 (hk s1).1;simp[genG,this]
   split
   ·unfold repF;simp only[if_neg hu.u8,hu.u32,true_and];have hm:=Bl l (n:=2) (by omega) (nx l 12 s1).2;generalize nx l 2 (nx l 12 s1).2=m at *;have hm2:m.1=0∨m.1=1:=by omega
    by_cases hn:nullG (treeF l uses d m.2).1=true
    ·rw[if_pos hn];simp only[genG,genL,GV,nullHd,KT];simp[hm2]
    ·rw[if_neg hn];simp only[genG,genL,ih,nullHd,hn];simp[hm2]
   split
   ·rename_i hc;have hcap:∀(q:Int) (s:MS),genG (decide (0<andI uses 64)) (.mk 5 [] [(treeF l uses d s).1] 0 0 0 q false)=true:=fun q s=>by
     have:=ih s;simp only[hc.2,decide_true]at this |-;simp[genG,genL,this]
    exact hcap _ _
   split
   ·simp[genG,genL]
   split
   ·rename_i hc;exact absurd hc.2 hu.u4
   split
   ·rename_i hc;exact absurd hc.2 hu.u8
   split
   ·rename_i hc;exact absurd hc.2.1 hu.u1
   split
   ·rename_i hc;exact absurd hc.2.1 hu.u2
   ·exact GV _ l _
mutual
def noAs:Re->Bool
 | .mk op set kids mn mx md n neg=>!decide (op=11)&&noAsL kids
def noAsL:List Re->Bool
 | []=>true
 | k::ks=>noAs k&&noAsL ks
end
theorem FX:∀ l:List Re,noAsL l=true↔∀ k∈l,noAs k=true
 | []=>by simp[noAsL]
 | k::ks=>by simp[noAsL,FX ks]
theorem E8 (l:List Int) (s:MS):noAs (setM l s).1=true:=by
 simp[setM,noAs,noAsL]
theorem IH {uses:Int} (hu:Uses uses) (ha:¬ 0<andI uses 16) (l:List Int):∀ d s,noAs (treeF l uses d s).1=true
 | 0,s=>by
   rw[treeF];unfold leafF;split
   ·simp[noAs,noAsL]
   ·exact E8 l _
 | d+1,s=>by
   have ih:=IH hu ha l d;have hk:=fun s=>FZ (P:=fun k=>noAs k=true) l ih s;rw[treeF];generalize nx l 20 ⟨s.at_,s.left-1,s.caps⟩=Y;obtain⟨k,s1⟩:=Y;unfold treeStep;simp only;split
   ·unfold leafF;split
    ·simp[noAs,noAsL]
    ·exact E8 l _
   split
   ·have:=(FX _).2 (hk s1).1;simp[noAs,this]
   split
   ·have:=(FX _).2 (hk s1).1;simp[noAs,this]
   split
   ·unfold repF;simp only[if_neg hu.u8,hu.u32,true_and];have hm:=Bl l (n:=2) (by omega) (nx l 12 s1).2;generalize nx l 2 (nx l 12 s1).2=m at *;have hm2:m.1=0∨m.1=1:=by omega
    by_cases hn:nullG (treeF l uses d m.2).1=true
    ·rw[if_pos hn];simp only[noAs,noAsL,E8,nullHd,KT];simp[hm2]
    ·rw[if_neg hn];simp only[noAs,noAsL,ih,nullHd,hn];simp[hm2]
   split
   ·rename_i hc;have hcap:∀(q:Int) (s:MS),noAs (.mk 5 [] [(treeF l uses d s).1] 0 0 0 q false)=true:=fun q s=>by
     simp[noAs,noAsL,ih s]
    exact hcap _ _
   split
   ·rename_i hc;exact absurd hc.2 ha
   split
   ·rename_i hc;exact absurd hc.2 hu.u4
   split
   ·rename_i hc;exact absurd hc.2 hu.u8
   split
   ·rename_i hc;exact absurd hc.2.1 hu.u1
   split
   ·rename_i hc;exact absurd hc.2.1 hu.u2
   ·exact E8 l _
def mL1:Nat->Nat
 | 0=>1
 | d+1=>3*mL1 d+4
theorem Py:∀ d,1<=mL1 d
 | 0=>Nat.le_refl _
 | d+1=>by rw[mL1];omega
theorem GT (l:List Int) (s:MS):lenG (setM l s).1=1:=by simp[setM,lenG]
theorem Me {M:Nat}:∀ l:List Re,(∀ k∈l,lenG k<=M)->lenL l<=l.length*M
 | [],_=>by simp[lenL]
 | k::ks,h=>by
   have h1:=h k (by simp);have h2:=Me ks (fun q hq=>h q (by simp[hq]));rw[lenL,length_cons,Nat.add_mul];omega
theorem Jy {uses:Int} (hu:Uses uses) (l:List Int):∀ d s,lenG (treeF l uses d s).1<=mL1 d
 | 0,s=>by
   rw[treeF];unfold leafF;split
   ·simp[lenG,lenL]
   ·rw[GT];exact Nat.le_refl _
 | d+1,s=>by
   have ih:=Jy hu l d;have hk:=fun s=>FZ (P:=fun k=>lenG k<=mL1 d) l ih s;have hp:=Py d;have kl:∀ s,lenL (kidsF l (treeF l uses d) s).1<=3*mL1 d:=fun s=>Nat.le_trans (Me _ (hk s).1) (Nat.mul_le_mul_right _ (hk s).2.1);rw[treeF];generalize nx l 20 ⟨s.at_,s.left-1,s.caps⟩=Y;obtain⟨k,s1⟩:=Y;have kl1:=kl s1;have hk1:=(hk s1).2;unfold treeStep;simp only;rw[show mL1 (d+1)=3*mL1 d+4 from rfl];split
   ·unfold leafF;split
    ·simp[lenG,lenL]
    ·rw[GT];omega
   split
   ·simp[lenG];omega
   split
   ·simp[lenG];omega
   split
   ·unfold repF;simp only[if_neg hu.u8,hu.u32,true_and];have h12:=Bl l (n:=12) (by omega) s1;generalize (nx l 12 s1)=q at *;have hkid:∀ s,lenG (if nullG (treeF l uses d s).1=true then setM l (treeF l uses d s).2 else treeF l uses d s).1<=mL1 d:=fun s=>by
     split
     ·rw[GT];omega
     ·exact ih s
    have h1:=hkid (nx l 2 q.2).2;generalize (if nullG (treeF l uses d (nx l 2 q.2).2).1=true then setM l (treeF l uses d (nx l 2 q.2).2).2 else treeF l uses d (nx l 2 q.2).2).1=kid at *;obtain⟨q1,q2⟩:=q;simp only at h12 |-;have:q1=0∨q1=1∨q1=2∨q1=3∨q1=4∨q1=5∨q1=6∨q1=7∨q1=8∨q1=9∨q1=10∨q1=11:=by omega
    rcases this with rfl|rfl|rfl|rfl|rfl|rfl|rfl|rfl|rfl|rfl|rfl|rfl<;>simp[lenG,lenL]<;>omega
   split
   ·unfold capF;have hcap:∀(q:Int) (s:MS),lenG (.mk 5 [] [(treeF l uses d s).1] 0 0 0 q false)<=3*mL1 d+4:=fun q s=>by
     have:=ih s;simp[lenG,lenL];omega
    exact hcap _ _
   split
   ·simp[lenG]
   split
   ·rename_i hc;exact absurd hc.2 hu.u4
   split
   ·rename_i hc;exact absurd hc.2 hu.u8
   split
   ·rename_i hc;exact absurd hc.2.1 hu.u1
   split
   ·rename_i hc;exact absurd hc.2.1 hu.u2
   ·rw[GT];omega
end Go.Ev
