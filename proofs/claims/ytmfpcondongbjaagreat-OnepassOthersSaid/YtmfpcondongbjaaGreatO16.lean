/- Functions of the program, each with what it computes; no further conditions. -/
import Derived.Test.YtmfpcondongbjaaGreatO07
import Derived.Test.YtmfpcondongbjaaGreatO15
import Derived.Test.YtmfpcondongbjaaGreatO13
set_option linter.unusedVariables false
set_option linter.unusedSimpArgs false
namespace Go.Ev
attribute [local go_sem] evBin evBuild splice List.length_append tySzE List.head?_drop Nat.mul_one zAP zAU zAN zAQ zAR zAX
section
attribute [local go_sem] evAppend List.map_append
open Go.Proofs Go.RowKit Go.IntWalk
set_option maxRecDepth 100000
set_option maxHeartbeats 8000000
theorem zNN {f:Nat} (hpu:pol1.pure f=false) (hex:pol1.ext f=none) (h0:pol1.byref f 0=true) (h1:pol1.byref f 1=false) (h2:pol1.byref f 2=false) (h3:pol1.byref f 3=false) (hy:f≠yldF)
  (A K:List MB) (X:MB) (t:List Int) (fuel:Int) (s:SS) (e:Nat) (cells:List AV) (i:Int) (c:Caps) (hp:AV.plainL cells=true) :
  call Tryz.prog pol1 f [.rf A.length 1 0 0,.rf (A.length+(K.length+1+1+1+1)) 1 0 0,I i,capA c] (srH A t fuel s e (K++[X,.row 12 [.agg cells] 0])) =
   call Tryz.prog pol1 f [.rf A.length 1 0 0,.pt cells,I i,capA c] (srH A t fuel s e (K++[X,.row 12 [.agg cells] 1])):=by
 refine zGi hpu hex ?_ (zAO _ _ _ (by simp[mixOk,h0,AV.plain,hp,zAG])) hy
 have hz:=zJ4 (id:=A.length+(K.length+1+1+1+1)) (tot:=1) (i:=0) (j:=0) (k:=12) (z:=0) (H:=srH A t fuel s e (K++[X,.row 12 [.agg cells] 0])) (els:=[.agg cells]) (x:=.agg cells) (by unfold getRow;rw[zAj]) rfl rfl hp
 have hm:mark (srH A t fuel s e (K++[X,.row 12 [.agg cells] 0])) (A.length+(K.length+1+1+1+1)) (0+1)=srH A t fuel s e (K++[X,.row 12 [.agg cells] 1]):=by
  unfold mark getRow
  rw[zAj]
  simp only[zAl]
  rfl
 rw[hm]at hz
 have hc:∀ H,fz (capA c) H=some (capA c,H):=fun H=>zAf H (by simp[AV.plain,zAG])
 have hi:∀ H,fz (I i) H=some (I i,H):=fun H=>rfl
 simp only[frzArgs,h0,h1,h2,h3,Bool.false_eq_true,if_false,if_true,hz,hc,hi]
 rfl
theorem zNl {caps top:Int} {set:List (Int×Int)} {kids:List Re} {mn mx md n:Int} {neg:Bool} (h:wholeG caps top (.mk 1 set kids mn mx md n neg)=true):set.length≤64:=by
 rw[wholeG,Bool.and_eq_true]at h
 have h1:=h.1
 simp only[formedG,Bool.and_eq_true]at h1
 have h2:=h1.1.1.1.2
 rw[if_pos trivial]at h2
 simp only[spansG,Bool.and_eq_true,decide_eq_true_eq]at h2
 exact h2.1
theorem zNP {caps top:Int} {set:List (Int×Int)} {kids:List Re} {mn mx md n:Int} {neg:Bool} (h:wholeG caps top (.mk 11 set kids mn mx md n neg)=true):0≤n∧n≤5:=by
 rw[wholeG,Bool.and_eq_true]at h
 have h1:=h.1
 simp only[formedG,Bool.and_eq_true]at h1
 have h2:=h1.1.2
 rw[if_neg (by omega),if_pos trivial,Bool.and_eq_true,decide_eq_true_eq,decide_eq_true_eq]at h2
 exact h2
theorem zOC (A K:List MB) (X:MB) (L:List MB) (t:List Int) (fuel:Int) (s:SS) (e:Nat) (cells:List AV) (hp:AV.plainL cells=true) :
  fz (.rf (A.length+(K.length+(L.length+1)+1+1+1)) 1 0 0) (srH A t fuel s e (K++X::(L++[.row 12 [.agg cells] 0])))=some (.pt cells,srH A t fuel s e (K++X::(L++[.row 12 [.agg cells] 1]))):=by
 have hM:∀ v:MB,K++X::(L++[v])=(K++X::L)++v::[]:=fun v=>by simp
 have hl:K.length+(L.length+1)=(K++X::L).length:=by simp
 rw[hM,hM,hl]
 have hz:=zJ4 (id:=A.length+((K++X::L).length+1+1+1)) (tot:=1) (i:=0) (j:=0) (k:=12) (z:=0) (H:=srH A t fuel s e ((K++X::L)++.row 12 [.agg cells] 0::[])) (els:=[.agg cells]) (x:=.agg cells) (by unfold getRow;rw[zA8]) rfl rfl hp
 have hm:mark (srH A t fuel s e ((K++X::L)++.row 12 [.agg cells] 0::[])) (A.length+((K++X::L).length+1+1+1)) (0+1)=srH A t fuel s e ((K++X::L)++.row 12 [.agg cells] 1::[]):=by
  unfold mark getRow
  rw[zA8]
  simp only[zBH]
  rfl
 rw[hm]at hz
 exact hz
theorem zNO (A K:List MB) (X:MB) (t:List Int) (fuel:Int) (s:SS) (e:Nat) (kid:Re) (ca:List AV) (i:Int) (c:Caps) (hca:AV.plainL ca=true) :
  call Tryz.prog pol1 118 [.rf A.length 1 0 0,.rf (A.length+(K.length+2+1+1+1)) 1 0 0,I i,capA c] (srH A t fuel s e (K++[X,.row 12 [.agg ca] 0,.row 12 [.agg (I 0::(reC kid++[I 0,I 0]++[.rf (A.length+(K.length+1+1+1+1)) 1 0 0]))] 0])) =
   call Tryz.prog pol1 118 [.rf A.length 1 0 0,.pt (I 0::(reC kid++[I 0,I 0]++[.pt ca])),I i,capA c] (srH A t fuel s e (K++[X,.row 12 [.agg ca] 1,.row 12 [.agg (I 0::(reC kid++[I 0,I 0]++[.rf (A.length+(K.length+1+1+1+1)) 1 0 0]))] 1])):=by
 have hpre:AV.plainL (I 0::(reC kid++[I 0,I 0]))=true:=by simp[AV.plainL,AV.plain,zBG,zAb]
 have hall:AV.plainL (I 0::(reC kid++[I 0,I 0]++[.pt ca]))=true:=by simp[AV.plainL,AV.plain,zBG,zAb,hca]
 have hz:=zNc (H:=srH A t fuel s e (K++[X,.row 12 [.agg ca] 0,.row 12 [.agg (I 0::(reC kid++[I 0,I 0]++[.rf (A.length+(K.length+1+1+1+1)) 1 0 0]))] 0])) (H1:=srH A t fuel s e (K++[X,.row 12 [.agg ca] 0,.row 12 [.agg (I 0::(reC kid++[I 0,I 0]++[.rf (A.length+(K.length+1+1+1+1)) 1 0 0]))] 1]))
  (H2:=srH A t fuel s e (K++[X,.row 12 [.agg ca] 1,.row 12 [.agg (I 0::(reC kid++[I 0,I 0]++[.rf (A.length+(K.length+1+1+1+1)) 1 0 0]))] 1])) (pre:=I 0::(reC kid++[I 0,I 0])) (a:=A.length+(K.length+1+1+1+1)) (b:=A.length+(K.length+2+1+1+1)) (ca:=ca)
  (by unfold getRow;rw[zHb];rfl) (by unfold mark getRow;rw[zHb];simp only[zLj];rfl) (by unfold getRow;rw[zAj]) (by unfold mark getRow;rw[zAj];simp only[zAl];rfl) hpre hca
 have h0:pol1.byref 118 0=true:=rfl
 have h1:pol1.byref 118 1=false:=rfl
 have h2:pol1.byref 118 2=false:=rfl
 have h3:pol1.byref 118 3=false:=rfl
 refine zGi rfl rfl ?_ (zAO _ _ _ (by simp[mixOk,h0,AV.plain,AV.plainL,zBG,zAb,hca,zAG]))
 have hc:∀ H,fz (capA c) H=some (capA c,H):=fun H=>zAf H (by simp[AV.plain,zAG])
 have hi:∀ H,fz (I i) H=some (I i,H):=fun H=>rfl
 simp only[frzArgs,h0,h1,h2,h3,Bool.false_eq_true,if_false,if_true,hz,hc,hi]
 rfl
theorem zM2 {t:List Int} {fuel:Int} {R:RunT} {op:Int} {set:List (Int×Int)} {kids:List Re} {mn mx md n:Int} {neg:Bool} {next:Goal} {i:Int} {c:Caps} {s:SS} :
 nodeR t fuel R (.mk op set kids mn mx md n neg) next i c s =
  if op=4 then repR fuel R (.mk op set kids mn mx md n neg) 0 next i c s
  else if(stepSz fuel s).empty=true then some (true,stepSz fuel s)
  else if op=1 then
   (match t[i.toNat]? with
   | some x=>if hasSpan set x=true then R next (i+1) c (stepSz fuel s) else some (false,stepSz fuel s)
   | none=>some (false,stepSz fuel s))
  else if op=2 then R (catG next kids) i c (stepSz fuel s)
  else if op=3 then altR R next i c kids (stepSz fuel s)
  else if op=5 then
   (match kids with
   | []=>none
   | kid::_=>R (.mk 0 kid 0 0 (.mk 3 (.mk op set kids mn mx md n neg) 0 i next)) i c (stepSz fuel s))
  else if op=11 then(if assertI n (befS t i.toNat) t[i.toNat]?=true then R next i c (stepSz fuel s) else some (false,stepSz fuel s))
  else R next i c (stepSz fuel s):=rfl
theorem f154 {caps top:Int} {t:List Int} {fuel:Int} (ht:t.length≤65536) (hf:0≤fuel∧fuel≤1000000) {R:RunT} (hP:RunP caps top t fuel R) (hR:Run138 caps top t fuel R)
  (A K:List MB) (kind:Int) (re:Re) (k fr:Int) (i:Nat) (next:Goal) (c:Caps) (s:SS) (b:Bool) (s':SS) (h:RGood caps top re) (hi:i≤t.length)
  (hn:GG caps top t.length s.steps next) (hc:c.length≤1000) (hs:SPre fuel s) (he:nodeR t fuel R re next i c s=some (b,s')) :
  call Tryz.prog pol1 145 [.rf A.length 1 0 0,.pt (goalC kind re k fr next),I i,capA c] (srH A t fuel s s.ends.length K)=some (.bool b,srH A t fuel s' s'.ends.length K):=by
 have h161:=fun K=>f161 A K t fuel s s.ends.length ⟨hs.st.1,by have:=hs.st;omega⟩
 have ret:=fun b s' e' L=>zKd (f:=145) rfl rfl b A K L t fuel s s' s.ends.length e'
 have hp8:=zCf next
 have hka:∀ L L':List MB,(K++L)++L' = K++(L++L'):=fun L L'=>List.append_assoc K L L'
 obtain⟨op,set,kids,mn,mx,md,n,neg⟩:=re
 have hgp:=zBr kind (.mk op set kids mn mx md n neg) k fr next
 have hgp1:=zBr 1 (.mk op set kids mn mx md n neg) 0 0 next
 have hG:∀ kind k fr next,goalC kind (.mk op set kids mn mx md n neg) k fr next=[I kind,I op,.sl false (set.map spanAV),.sl false (kids.map reAV),I mn,I mx,I md,I n,.bool neg,I k,I fr,goalA next]:=fun kind k fr next=>by
  rw[goalC,zCc];rfl
 rw[hG]at hgp hgp1 ⊢
 have fr':frzArgs pol1 145 0 [.rf A.length 1 0 0,.pt [I kind,I op,.sl false (set.map spanAV),.sl false (kids.map reAV),I mn,I mx,I md,I n,.bool neg,I k,I fr,goalA next],I i,capA c] (srH A t fuel s s.ends.length K)=some ([.rf A.length 1 0 0,.pt [I kind,I op,.sl false (set.map spanAV),.sl false (kids.map reAV),I mn,I mx,I md,I n,.bool neg,I k,I fr,goalA next],I i,capA c],srH A t fuel s s.ends.length K):=zAO _ _ _ (by
  simp only[mixOk,show pol1.byref 145 0=true from rfl,AV.plain,hgp,zAG,Bool.true_or,Bool.or_true,Bool.and_self,Bool.and_true];rfl)
 refine zAY (pol:=pol1) Tryz.func145 rfl rfl rfl rfl fr' ?_
 have hop:=h.good.op
 have hkl:=h.len
 simp only[Re.kids]at hkl
 have hst:(stepSz fuel s).steps=s.steps+1:=rfl
 have hn1:=hn.mono (show s.steps≤(stepSz fuel s).steps by omega)
 by_cases h4:op=4
 ·subst h4
  have he:repR fuel R (.mk 4 set kids mn mx md n neg) 0 next i c s=some (b,s'):=he
  have c1:=fun K'=>f152 ht hf hP hR A K' (.mk 4 set kids mn mx md n neg) 0 0 i next c s b s' h rfl ⟨Int.le_refl _,hs.st.1⟩ ⟨by omega,by omega⟩ hn hc hs he
  rw[hG]at c1
  have c2:=fun X=>(zNN (f:=143) rfl rfl rfl rfl rfl rfl (by decide) A K X t fuel s s.ends.length _ i c hgp1).trans (c1 _)
  simp +contextual (disch:=omega) only[Tryz.f145,zER,go_sem,simprocAttr,zEQ,↓zAD,↓zAC,↓zAB,↓zAA,c2,zBD,zA8,zBH,Bool.not_false,zBK,zBJ,zAq,zB9,zCA,zCB,zAo,zAp,zAV,List.all_append,zAj,zAl,zAu,hka]
  repeat' (first|apply And.intro|(unfold dOk;kernel_rfl)|exact zAV next|(show (_ && _)=true;kernel_rfl)|(show (_ || _)=true;kernel_rfl)|intro _)
  all_goals exact ret _ _ _ _
 ·rw[zM2,if_neg h4]at he
  by_cases h1:(stepSz fuel s).empty=true
  ·rw[if_pos h1]at he
   simp only[Option.some.injEq,Prod.mk.injEq]at he
   obtain⟨rfl,rfl⟩:=he
   have h161:=fun K=>(h161 K).trans (by rw[h1])
   simp +contextual (disch:=omega) only[Tryz.f145,zER,go_sem,simprocAttr,zEQ,↓zAD,↓zAC,↓zAB,↓zAA,h161,h4,zBD,zA8,zBH,Bool.not_false,zBK,zBJ,zAq,zB9,zCA,zCB,zAo,zAp,zAV,List.all_append,zAj,zAl,zAu,hka,zBn]
   repeat' (first|apply And.intro|(unfold dOk;kernel_rfl)|exact zAV next|(show (_ && _)=true;kernel_rfl)|(show (_ || _)=true;kernel_rfl)|intro _)
   all_goals exact ret _ _ _ _
  rw[if_neg h1,Int.toNat_natCast]at he
  have h1':(stepSz fuel s).empty=false:=by simpa using h1
  obtain⟨p1,p2⟩:=zCm hs h1'
  have h161:=fun K=>(h161 K).trans (by rw[h1'])
  have hN:∀(K':List MB) (j:Nat) (b:Bool) (s':SS),j≤t.length→R next j c (stepSz fuel s)=some (b,s') →
    call Tryz.prog pol1 118 [.rf A.length 1 0 0,goalA next,I j,capA c] (srH A t fuel (stepSz fuel s) s.ends.length K')=some (.bool b,srH A t fuel s' s'.ends.length K'):=fun K' j b s' h1 e=>
   hR A K' _ j c _ b s' hn1 (by omega) (by omega) hc p1 e
  rcases hop with rfl|rfl|rfl|rfl|rfl|rfl|rfl
  ·-- nothing
   rw[if_neg (by omega),if_neg (by omega),if_neg (by omega),if_neg (by omega),if_neg (by omega)]at he
   have c1:=fun K'=>hN K' i b s' hi he
   simp +contextual (disch:=omega) only[Tryz.f145,zER,go_sem,simprocAttr,zEQ,↓zAD,↓zAC,↓zAB,↓zAA,h161,c1,zBD,zA8,zBH,Bool.not_false,zBK,zBJ,zAq,zB9,zCA,zCB,zAo,zAp,zAV,List.all_append,zAj,zAl,zAu,hka,zBn]
   repeat' (first|apply And.intro|(unfold dOk;kernel_rfl)|exact zAV next|(show (_ && _)=true;kernel_rfl)|(show (_ || _)=true;kernel_rfl)|intro _)
   all_goals exact ret _ _ _ _
  ·-- a set
   rw[if_pos rfl]at he
   have hsl:set.length≤1000000:=by
    have h64:set.length≤64:=zNl h.good.whole
    omega
   by_cases hlt:i < t.length
   ·obtain⟨x,hx⟩:∃ x,t[i]?=some x:=⟨_,List.getElem?_eq_getElem hlt⟩
    rw[hx]at he
    simp only at he
    have h162:=f162 set x hsl
    cases hh:hasSpan set x with
    | true=>
      rw[hh,if_pos rfl,show (i:Int)+1=((i+1:Nat):Int) by omega]at he
      rw[hh]at h162
      have c1:=fun K'=>hN K' (i+1) b s' (by omega) he
      simp +contextual (disch:=omega) only[Tryz.f145,zER,go_sem,simprocAttr,zEQ,↓zAD,↓zAC,↓zAB,↓zAA,h161,h162,hx,c1,zBD,zA8,zBH,Bool.not_false,zBK,zBJ,zAq,zB9,zCA,zCB,zAo,zAp,zAV,List.all_append,zAj,zAl,zAu,hka,zBn]
      repeat' (first|apply And.intro|(unfold dOk;kernel_rfl)|exact zAV next|(show (_ && _)=true;kernel_rfl)|(show (_ || _)=true;kernel_rfl)|intro _)
      all_goals exact ret _ _ _ _
    | false=>
      rw[hh,if_neg Bool.false_ne_true]at he
      rw[hh]at h162
      simp only[Option.some.injEq,Prod.mk.injEq]at he
      obtain⟨rfl,rfl⟩:=he
      simp +contextual (disch:=omega) only[Tryz.f145,zER,go_sem,simprocAttr,zEQ,↓zAD,↓zAC,↓zAB,↓zAA,h161,h162,hx,zBD,zA8,zBH,Bool.not_false,zBK,zBJ,zAq,zB9,zCA,zCB,zAo,zAp,zAV,List.all_append,zAj,zAl,zAu,hka,zBn]
      repeat' (first|apply And.intro|(unfold dOk;kernel_rfl)|exact zAV next|(show (_ && _)=true;kernel_rfl)|(show (_ || _)=true;kernel_rfl)|intro _)
      all_goals exact ret _ _ _ _
   ·rw[List.getElem?_eq_none (by omega)]at he
    simp only[Option.some.injEq,Prod.mk.injEq]at he
    obtain⟨rfl,rfl⟩:=he
    simp +contextual (disch:=omega) only[Tryz.f145,zER,go_sem,simprocAttr,zEQ,↓zAD,↓zAC,↓zAB,↓zAA,h161,zBD,zA8,zBH,Bool.not_false,zBK,zBJ,zAq,zB9,zCA,zCB,zAo,zAp,zAV,List.all_append,zAj,zAl,zAu,hka,zBn]
    repeat' (first|apply And.intro|(unfold dOk;kernel_rfl)|exact zAV next|(show (_ && _)=true;kernel_rfl)|(show (_ || _)=true;kernel_rfl)|intro _)
    all_goals exact ret _ _ _ _
  ·-- one after the other
   rw[if_neg (by omega),if_pos rfl]at he
   have c1:=fun K'=>hR A K' (catG next kids) i c _ b s' (GG.cat (by omega) hn1 h.kids) (by omega) (by omega) hc p1 he
   rw[show (stepSz fuel s).ends.length=s.ends.length from rfl]at c1
   obtain⟨X,hX⟩:∃ X:MB,X=.row 8 [.agg [I 2,.sl false (set.map spanAV),.sl false (kids.map reAV),I mn,I mx,I md,I n,.bool neg]] 0:=⟨_,rfl⟩
   simp +contextual (disch:=omega) only[Tryz.f145,zER,go_sem,simprocAttr,zEQ,↓zAD,↓zAC,↓zAB,↓zAA,h161,zBD,zA8,zBH,Bool.not_false,zBK,zBJ,zAq,zB9,zCA,zCB,zAo,zAp,zAV,List.all_append,zAj,zAl,zAu,hka,zBn]
   refine zFD (σ:=Nat×List MB) (M:=⟨some [11,10,9,3,2,0],none,[]⟩) rfl (fun x=>(⟨341,[(11,I ((x.1:Int) - 1)),(10,goalA (catG next (kids.drop x.1))),(9,.rf (A.length+(K.length+1+1+1)) 1 0 0),(3,capA c),(2,I i),(0,.rf A.length 1 0 0)],
    srH A t fuel (stepSz fuel s) s.ends.length (K++.row 8 [.agg [I 2,.sl false (set.map spanAV),.sl false (kids.map reAV),I mn,I mx,I md,I n,.bool neg]] 0::x.2)⟩:St)) (fun x=>x.1≤kids.length) (fun x=>x.1) (kids.length,[]) ?_ (Nat.le_refl _) _ ?_
   ·rintro⟨j,L⟩ hj
    simp only at hj ⊢
    rcases j with _|m
    ·have hz0:((0:Nat):Int) - 1 = -1:=rfl
     rw[hz0,List.drop_zero]
     simp +contextual (disch:=omega) only[Tryz.f145,zER,go_sem,simprocAttr,zEQ,↓zAD,↓zAC,↓zAB,↓zAA,h161,c1,zBD,zA8,zBH,Bool.not_false,zBK,zBJ,zAq,zB9,zCA,zCB,zAo,zAp,zAV,List.all_append,zAj,zAl,zAu,hka,zBn]
     exact ret b s' _ _
    ·obtain⟨kid,hkid⟩:∃ k,kids[m]?=some k:=⟨_,List.getElem?_eq_getElem (by omega)⟩
     have hl8:=zAM kid
     have ht8:=zAT kid
     have hok8:=zAs kid
     have hm1:((m+1:Nat):Int) - 1=(m:Int):=by omega
     rw[hm1]
     have hcp:AV.plainL (I 0::(reC kid++[I 0,I 0]++[goalA (catG next (kids.drop (m+1)))]))=true:=by
      simp[AV.plainL,AV.plain,zBG,zAb,zCf]
     have hfz:=fun X=>zOC A K X L t fuel (stepSz fuel s) s.ends.length _ hcp
     simp +contextual (disch:=omega) only[Tryz.f145,zER,go_sem,simprocAttr,zEQ,↓zAD,↓zAC,↓zAB,↓zAA,h161,hkid,hl8,ht8,hok8,zBl,zBm,hfz,zBD,zA8,zBH,Bool.not_false,zBK,zBJ,zAq,zB9,zCA,zCB,zAo,zAp,zAV,List.all_append,zAj,zAl,zAu,hka,zBn]
     refine⟨zAV _,zAV _,(m,L++[.row 12 [.agg (I 0::(reC kid++[I 0,I 0]++[goalA (catG next (kids.drop (m+1)))]))] 1]),by show m≤_;omega,Nat.lt_succ_self _,?_⟩
     have hgm:goalA (catG next (kids.drop m))=.pt (I 0::(reC kid++[I 0,I 0]++[goalA (catG next (kids.drop (m+1)))])):=by
      rw[List.drop_eq_getElem_cons (by omega),(List.getElem?_eq_some_iff.1 hkid).2]
      simp[catG,goalA]
     simp only[hgm]
     rfl
   ·simp only[List.drop_length,catG]
    rfl
  ·-- one of some
   rw[if_neg (by omega),if_neg (by omega),if_pos rfl]at he
   simp +contextual (disch:=omega) only[Tryz.f145,zER,go_sem,simprocAttr,zEQ,↓zAD,↓zAC,↓zAB,↓zAA,h161,zBD,zA8,zBH,Bool.not_false,zBK,zBJ,zAq,zB9,zCA,zCB,zAo,zAp,zAV,List.all_append,zAj,zAl,zAu,hka,zBn]
   refine zFD (σ:=Nat×List MB×SS) (M:=⟨some [12,9,3,2,1,0],none,[]⟩) rfl (fun x=>(⟨341,[(12,I (x.1:Nat)),(9,.rf (A.length+(K.length+1+1+1)) 1 0 0),(3,capA c),(2,I i),(1,.pt [I kind,I 3,.sl false (set.map spanAV),.sl false (kids.map reAV),I mn,I mx,I md,I n,.bool neg,I k,I fr,goalA next]),(0,.rf A.length 1 0 0)],
    srH A t fuel x.2.2 x.2.2.ends.length (K++.row 8 [.agg [I 3,.sl false (set.map spanAV),.sl false (kids.map reAV),I mn,I mx,I md,I n,.bool neg]] 0::x.2.1)⟩:St))
    (fun x=>x.1≤kids.length∧altR R next i c (kids.drop x.1) x.2.2=some (b,s')∧SPre fuel x.2.2∧(stepSz fuel s).steps≤x.2.2.steps∧(x.2.2.ends.length:Int)+((kids.length - x.1:Nat):Int)≤256 * x.2.2.steps) (fun x=>kids.length - x.1) (0,[],stepSz fuel s) ?_
    ⟨Nat.zero_le _,he,p1,Int.le_refl _,by simp only;omega⟩ _ ?_
   ·rintro⟨j,L,s1⟩ ⟨hj,he,q1,q2,q3⟩
    simp only at hj he q1 q2 q3 ⊢
    by_cases hjl:j < kids.length
    ·obtain⟨kid,hkid⟩:∃ k,kids[j]?=some k:=⟨_,List.getElem?_eq_getElem hjl⟩
     have hl8:=zAM kid
     have ht8:=zAT kid
     have hok8:=zAs kid
     have hcp:AV.plainL (I 0::(reC kid++[I 0,I 0]++[goalA next]))=true:=by
      simp[AV.plainL,AV.plain,zBG,zAb,zCf]
     have hgm:goalA (.mk 0 kid 0 0 next)=.pt (I 0::(reC kid++[I 0,I 0]++[goalA next])):=by
      simp[goalA]
     have hgk:=h.kids kid (List.mem_of_getElem? hkid)
     rw[List.drop_eq_getElem_cons hjl,(List.getElem?_eq_some_iff.1 hkid).2,altR]at he
     have hgg:GG caps top t.length s1.steps (.mk 0 kid 0 0 next):=⟨hgk,.inl rfl,⟨Int.le_refl _,by omega⟩,hn1.mono q2⟩
     have hbox:=fun(X:MB) b' s2 e2=>(zKw A (K++X::L) t fuel s1 s1.ends.length _ i c hcp).trans ((hgm ▸ hR A ((K++X::L)++[MB.row 12 [.agg (I 0::(reC kid++[I 0,I 0]++[goalA next]))] 1]) (.mk 0 kid 0 0 next) i c s1 b' s2 hgg (by omega) (by omega) hc q1 e2))
     have hka2:∀(X Y:MB),(K++X::L)++[Y]=K++X::(L++[Y]):=fun X Y=>by simp
     simp only[hka2,List.length_append,List.length_cons]at hbox
     unfold orR at he
     split at he
     ·cases he
     ·rename_i s2 e2
      simp only[Option.some.injEq,Prod.mk.injEq]at he
      obtain⟨rfl,rfl⟩:=he
      have c1:=fun X=>hbox X _ _ e2
      simp +contextual (disch:=omega) only[Tryz.f145,zER,go_sem,simprocAttr,zEQ,↓zAD,↓zAC,↓zAB,↓zAA,h161,hkid,hl8,ht8,hok8,zBl,zBm,c1,zBD,zA8,zBH,Bool.not_false,zBK,zBJ,zAq,zB9,zCA,zCB,zAo,zAp,zAV,List.all_append,zAj,zAl,zAu,hka,zBn]
      repeat' (first|apply And.intro|(unfold dOk;kernel_rfl)|exact zAV next|(show (_ && _)=true;kernel_rfl)|(show (_ || _)=true;kernel_rfl)|intro _)
      all_goals exact ret _ _ _ _
     ·rename_i s2 e2
      have c1:=fun X=>hbox X _ _ e2
      have q:=hP _ _ _ _ _ _ hgg (by omega) (by omega) hc q1 e2
      simp +contextual (disch:=omega) only[Tryz.f145,zER,go_sem,simprocAttr,zEQ,↓zAD,↓zAC,↓zAB,↓zAA,h161,hkid,hl8,ht8,hok8,zBl,zBm,c1,zBD,zA8,zBH,Bool.not_false,zBK,zBJ,zAq,zB9,zCA,zCB,zAo,zAp,zAV,List.all_append,zAj,zAl,zAu,hka,zBn]
      repeat' (first|apply And.intro|(unfold dOk;kernel_rfl)|exact zAV next|(show (_ && _)=true;kernel_rfl)|(show (_ || _)=true;kernel_rfl)|intro _)
      have qa:=q.el
      have qb:=q.st
      have qc:=q.fu rfl
      have qd:=q1.st
      have rp:SPre fuel s2:=⟨q.eb.symm,⟨by omega,qc⟩,q.cl,by omega⟩
      have r1:(stepSz fuel s).steps≤s2.steps:=by omega
      have r2:(s2.ends.length:Int)+((kids.length - (j+1):Nat):Int)≤256 * s2.steps:=by omega
      refine⟨(j+1,L++[MB.row 12 [.agg (I 0::(reC kid++[I 0,I 0]++[goalA next]))] 1],s2),⟨hjl,he,rp,r1,r2⟩,by show kids.length - (j+1) < _;omega,?_⟩
      rfl
    ·obtain rfl:j=kids.length:=by omega
     rw[List.drop_length,altR]at he
     simp only[Option.some.injEq,Prod.mk.injEq]at he
     obtain⟨rfl,rfl⟩:=he
     simp +contextual (disch:=omega) only[Tryz.f145,zER,go_sem,simprocAttr,zEQ,↓zAD,↓zAC,↓zAB,↓zAA,h161,zBD,zA8,zBH,Bool.not_false,zBK,zBJ,zAq,zB9,zCA,zCB,zAo,zAp,zAV,List.all_append,zAj,zAl,zAu,hka,zBn]
     exact ret false _ _ _
   ·rfl
  ·exact absurd rfl h4
  ·-- a capture
   rw[if_neg (by omega),if_neg (by omega),if_neg (by omega),if_pos rfl]at he
   obtain⟨kid,hkid,hgk⟩:=zKK h rfl
   simp only[Re.kids]at hkid
   subst hkid
   simp only at he
   have hl8:=zAM kid
   have ht8:=zAT kid
   have hok8:=zAs kid
   have hca:=zBr 3 (.mk 5 set [kid] mn mx md n neg) 0 i next
   rw[hG]at hca
   have hgm:goalA (.mk 0 kid 0 0 (.mk 3 (.mk 5 set [kid] mn mx md n neg) 0 i next))=.pt (I 0::(reC kid++[I 0,I 0]++[.pt [I 3,I 5,.sl false (set.map spanAV),.sl false ([kid].map reAV),I mn,I mx,I md,I n,.bool neg,I 0,I i,goalA next]])):=by
    simp[goalA,zCc]
   have hgg:GG caps top t.length (stepSz fuel s).steps (.mk 0 kid 0 0 (.mk 3 (.mk 5 set [kid] mn mx md n neg) 0 i next)):=⟨hgk,.inl rfl,⟨Int.le_refl _,by omega⟩,h,.inr (.inr (.inr ⟨rfl,rfl⟩)),⟨by omega,by omega⟩,hn1⟩
   have c1:=fun X=>(zNO A K X t fuel (stepSz fuel s) s.ends.length kid _ i c hca).trans (hgm ▸ hR A _ _ i c _ b s' hgg (by omega) (by omega) hc p1 he)
   simp only[List.map_cons,List.map_nil]at c1
   simp +contextual (disch:=omega) only[Tryz.f145,zER,go_sem,simprocAttr,zEQ,↓zAD,↓zAC,↓zAB,↓zAA,h161,c1,hl8,ht8,hok8,zBl,zBm,zBD,zA8,zBH,Bool.not_false,zBK,zBJ,zAq,zB9,zCA,zCB,zAo,zAp,zAV,List.all_append,zAj,zAl,zAu,hka,zBn]
   repeat' (first|apply And.intro|(unfold dOk;kernel_rfl)|exact zAV next|(show (_ && _)=true;kernel_rfl)|(show (_ || _)=true;kernel_rfl)|intro _)
   all_goals exact ret _ _ _ _
  ·-- an assertion
   rw[if_neg (by omega),if_neg (by omega),if_neg (by omega),if_neg (by omega),if_pos rfl]at he
   have hnn:=zNP h.good.whole
   have h165:=f165 n t i hnn hi (by omega)
   cases hh:assertI n (befS t i) t[i]? with
   | true=>
     rw[hh,if_pos rfl]at he
     rw[hh]at h165
     have c1:=fun K'=>hN K' i b s' hi he
     simp +contextual (disch:=omega) only[Tryz.f145,zER,go_sem,simprocAttr,zEQ,↓zAD,↓zAC,↓zAB,↓zAA,h161,h165,c1,zBD,zA8,zBH,Bool.not_false,zBK,zBJ,zAq,zB9,zCA,zCB,zAo,zAp,zAV,List.all_append,zAj,zAl,zAu,hka,zBn]
     repeat' (first|apply And.intro|(unfold dOk;kernel_rfl)|exact zAV next|(show (_ && _)=true;kernel_rfl)|(show (_ || _)=true;kernel_rfl)|intro _)
     all_goals exact ret _ _ _ _
   | false=>
     rw[hh,if_neg Bool.false_ne_true]at he
     rw[hh]at h165
     simp only[Option.some.injEq,Prod.mk.injEq]at he
     obtain⟨rfl,rfl⟩:=he
     simp +contextual (disch:=omega) only[Tryz.f145,zER,go_sem,simprocAttr,zEQ,↓zAD,↓zAC,↓zAB,↓zAA,h161,h165,zBD,zA8,zBH,Bool.not_false,zBK,zBJ,zAq,zB9,zCA,zCB,zAo,zAp,zAV,List.all_append,zAj,zAl,zAu,hka,zBn]
     repeat' (first|apply And.intro|(unfold dOk;kernel_rfl)|exact zAV next|(show (_ && _)=true;kernel_rfl)|(show (_ || _)=true;kernel_rfl)|intro _)
     all_goals exact ret _ _ _ _
end
section
open Go.Proofs Go.RowKit Go.IntWalk
set_option maxRecDepth 100000
set_option maxHeartbeats 8000000
theorem zNQ {H:List MB} {i n z:Nat} {l:List Int} {x:Int} {t:Bool} (hi:getRow H i=some (1,l.map I,z)) (hn:l.length=n) (hz:z≤n) (hr:n+1≤4000000000) :
  evAppend Tryz.prog H 22 22 (.ms i 1 n 0 n) (.sl t [I x])=some (.ms i 1 (n+1) 0 (n+1),H.set i (.row 1 ((l++[x]).map I) z)):=by
 have hs:srcElems Tryz.prog H 3 (.sl t [I x])=some [I x]:=rfl
 rw[zBI (e:=3) (by kernel_rfl) (by kernel_rfl) (k:=1) (by kernel_rfl) (by_:=8) (by kernel_rfl) (ze:=I 0) (by kernel_rfl) rfl (by omega) hs rfl hi (by rw[List.length_map];exact hn) hz (zAX (by simpa using hr) (by omega))]
 rw[List.map_append];rfl
theorem zMh {H:List MB} {i n z:Nat} {l:List Caps} {x:Caps} {t:Bool} (hi:getRow H i=some (1,l.map capA,z)) (hn:l.length=n) (hz:z≤n) (hr:n+1≤4000000000) :
  evAppend Tryz.prog H 203 203 (.ms i 1 n 0 n) (.sl t [capA x])=some (.ms i 1 (n+1) 0 (n+1),H.set i (.row 1 ((l++[x]).map capA) z)):=by
 have hs:srcElems Tryz.prog H 50 (.sl t [capA x])=some [capA x]:=rfl
 rw[zBI (e:=50) (by kernel_rfl) (by kernel_rfl) (k:=1) (by kernel_rfl) (by_:=24) (by kernel_rfl) (ze:=.sl true []) (by kernel_rfl) rfl (by omega) hs rfl hi (by rw[List.length_map];exact hn) hz (zAX (by simpa using hr) (by omega))]
 rw[List.map_append];rfl
theorem f138 {caps top:Int} {t:List Int} {fuel:Int} (ht:t.length≤65536) (hf:0≤fuel∧fuel≤1000000) (d:Nat) (hR:Run138 caps top t fuel (runG t fuel d)):Run138 caps top t fuel (runG t fuel (d+1)):=by
 intro A K g i c s b s' hg hi0 hi1 hc hs he
 have hP:=zF9 caps top t fuel d
 obtain⟨i,rfl⟩:∃ j:Nat,i=j:=⟨i.toNat,by omega⟩
 have ret:=fun b s' e' L=>zKd (f:=118) rfl rfl b A K L t fuel s s' s.ends.length e'
 have ret0:=fun b s' e'=>zLn (f:=118) rfl rfl b A K t fuel s s' s.ends.length e'
 have hnp:ofK (.pointer none)=.nilp:=rfl
 have hpg:=zCf g
 have fr':frzArgs pol1 118 0 [.rf A.length 1 0 0,goalA g,I i,capA c] (srH A t fuel s s.ends.length K)=some ([.rf A.length 1 0 0,goalA g,I i,capA c],srH A t fuel s s.ends.length K):=zAO _ _ _ (by
  simp only[mixOk,show pol1.byref 118 0=true from rfl,hpg,AV.plain,zAG,Bool.true_or,Bool.or_true,Bool.and_self,Bool.and_true];rfl)
 refine zAY (pol:=pol1) Tryz.func118 rfl rfl rfl rfl fr' ?_
 have hka:∀ L L':List MB,(K++L)++L' = K++(L++L'):=fun L L'=>List.append_assoc K L L'
 have hsl:=hs.el
 have hst:=hs.st
 cases g with
 | nil=>
   simp only[runG,Option.some.injEq,Prod.mk.injEq]at he
   obtain⟨rfl,rfl⟩:=he
   have a1:=zNQ (H:=srH A t fuel s s.ends.length K) (i:=A.length+1) (n:=s.ends.length) (z:=0) (l:=s.ends) (x:=(i:Int)) (t:=true) (by unfold getRow;rw[zM0]) rfl (Nat.zero_le _) (by omega)
   rw[zMy]at a1
   have a2:=fun S E=>zMh (H:=A++S::E::.row 1 (s.caps.map capA) 0::K) (i:=A.length+2) (n:=s.ends.length) (z:=0) (l:=s.caps) (x:=c) (t:=true) (by unfold getRow;rw[zMz]) hs.cl (Nat.zero_le _) (by omega)
   simp only[zMx]at a2
   simp only[goalA]
   simp +contextual (disch:=omega) only[Tryz.f118,zKD,go_sem,simprocAttr,AV.cells,zJx,↓zAD,↓zAC,↓zAB,↓zAA,hnp,evEq,zBn,zJv,a1,a2]
   exact⟨by unfold dOk;kernel_rfl,ret0 false ⟨s.steps,s.empty,s.ends++[(i:Int)],s.caps++[c]⟩ (s.ends.length+1)⟩
 | mk kind re k fr next=>
   obtain⟨g1,g2,g3,g4⟩:=hg
   simp only[runG]at he
   simp only[goalA]
   obtain⟨op,set,kids,mn,mx,md,n,neg⟩:=re
   have hG:∀ kind k fr next,goalC kind (.mk op set kids mn mx md n neg) k fr next=[I kind,I op,.sl false (set.map spanAV),.sl false (kids.map reAV),I mn,I mx,I md,I n,.bool neg,I k,I fr,goalA next]:=fun kind k fr next=>by
    rw[goalC,zCc];rfl
   rw[show (I kind::(reC (.mk op set kids mn mx md n neg)++[I k,I fr,goalA next]))=_ from hG kind k fr next]
   rcases g2 with rfl|⟨rfl,g2⟩|⟨rfl,g2⟩|⟨rfl,g2⟩
   ·rw[if_neg (by omega),if_neg (by omega),if_neg (by omega)]at he
    have c1:=f154 ht hf hP hR A K 0 _ k fr i next c s b s' g1 (by omega) g4 hc hs he
    rw[hG]at c1
    simp +contextual (disch:=omega) only[Tryz.f118,zKD,go_sem,simprocAttr,evAppend,List.map_append,zJx,↓zAD,↓zAC,↓zAB,↓zAA,hnp,evEq,c1]
    exact ret0 b s' _
   ·rw[if_pos rfl]at he
    have c1:=f152 ht hf hP hR A K _ k fr i next c s b s' g1 g2.1 g2.2 ⟨by omega,hi1⟩ g4 hc hs he
    rw[hG]at c1
    simp +contextual (disch:=omega) only[Tryz.f118,zKD,go_sem,simprocAttr,evAppend,List.map_append,zJx,↓zAD,↓zAC,↓zAB,↓zAA,hnp,evEq,c1]
    exact ret0 b s' _
   ·rw[if_neg (by omega),if_pos rfl]at he
    have he:(if mn≤k∧(i:Int)=fr then some (false,s) else runG t fuel d (.mk 1 (.mk op set kids mn mx md n neg) (k+1) 0 next) i c s)=some (b,s'):=he
    by_cases hm:mn≤k
    ·by_cases hif:(i:Int)=fr
     ·rw[if_pos ⟨hm,hif⟩]at he
      simp only[Option.some.injEq,Prod.mk.injEq]at he
      obtain⟨rfl,rfl⟩:=he
      simp +contextual (disch:=omega) only[Tryz.f118,zKD,go_sem,simprocAttr,evAppend,List.map_append,zJx,↓zAD,↓zAC,↓zAB,↓zAA,hnp,evEq,hif,hm]
      exact⟨by unfold dOk;kernel_rfl,ret0 false _ _⟩
     ·rw[if_neg (by omega)]at he
      have hgg:GG caps top t.length s.steps (.mk 1 (.mk op set kids mn mx md n neg) (k+1) 0 next):=⟨g1,.inr (.inl ⟨rfl,g2.1,by omega,by omega⟩),⟨Int.le_refl _,by omega⟩,g4⟩
      have hcp:=zBr 1 (.mk op set kids mn mx md n neg) (k+1) 0 next
      have c1:=(zKw A K t fuel s s.ends.length _ i c hcp).trans (hR A (K++[MB.row 12 [.agg (goalC 1 (.mk op set kids mn mx md n neg) (k+1) 0 next)] 1]) _ i c s b s' hgg (by omega) hi1 hc hs he)
      rw[hG]at c1
      have hw:IntKind.i64.wrap (k+1)=k+1:=by rw[i64_in]<;>omega
      simp +contextual (disch:=omega) only[Tryz.f118,zKD,go_sem,simprocAttr,evAppend,List.map_append,zJx,↓zAD,↓zAC,↓zAB,↓zAA,hnp,evEq,hif,hm,hw,c1,zBD,zBK,zBJ,zAq,zB9,zCA,zCB,zAo,zAp,zAV,List.all_append]
      repeat' (first|apply And.intro|(unfold dOk;kernel_rfl)|exact zAV next|(show (_ && _)=true;kernel_rfl)|(show (_ || _)=true;kernel_rfl)|intro _)
      exact ret b s' _ _
    ·rw[if_neg (by omega)]at he
     have hgg:GG caps top t.length s.steps (.mk 1 (.mk op set kids mn mx md n neg) (k+1) 0 next):=⟨g1,.inr (.inl ⟨rfl,g2.1,by omega,by omega⟩),⟨Int.le_refl _,by omega⟩,g4⟩
     have hcp:=zBr 1 (.mk op set kids mn mx md n neg) (k+1) 0 next
     have c1:=(zKw A K t fuel s s.ends.length _ i c hcp).trans (hR A (K++[MB.row 12 [.agg (goalC 1 (.mk op set kids mn mx md n neg) (k+1) 0 next)] 1]) _ i c s b s' hgg (by omega) hi1 hc hs he)
     rw[hG]at c1
     have hw:IntKind.i64.wrap (k+1)=k+1:=by rw[i64_in]<;>omega
     simp +contextual (disch:=omega) only[Tryz.f118,zKD,go_sem,simprocAttr,evAppend,List.map_append,zJx,↓zAD,↓zAC,↓zAB,↓zAA,hnp,evEq,hm,hw,c1,zBD,zBK,zBJ,zAq,zB9,zCA,zCB,zAo,zAp,zAV,List.all_append]
     repeat' (first|apply And.intro|(unfold dOk;kernel_rfl)|exact zAV next|(show (_ && _)=true;kernel_rfl)|(show (_ || _)=true;kernel_rfl)|intro _)
     exact ret b s' _ _
   ·rw[if_neg (by omega),if_neg (by omega),if_pos rfl]at he
    have h153:=f153 c n fr i (by omega)
    have c1:=fun K'=>hR A K' next i _ s b s' g4 (by omega) hi1 (by rw[zHW];exact hc) hs he
    simp only[Re.n]at c1
    simp +contextual (disch:=omega) only[Tryz.f118,zKD,go_sem,simprocAttr,evAppend,List.map_append,zJx,↓zAD,↓zAC,↓zAB,↓zAA,hnp,evEq,h153,c1]
    exact⟨by unfold dOk;kernel_rfl,by show (_ || _)=true;kernel_rfl,ret0 b s' _⟩
theorem zNX {caps top:Int} {t:List Int} {fuel:Int} (ht:t.length≤65536) (hf:0≤fuel∧fuel≤1000000):∀ d,Run138 caps top t fuel (runG t fuel d)
 | 0=>fun A K g i c s b s' _ _ _ _ _ e=>by cases g<;>simp[runG]at e
 | d+1=>f138 ht hf d (zNX ht hf d)
end
def repO (f:Nat→List Nat) (mn mx md:Int):Nat→Int→Nat→List Nat
 | 0,_,_=>[]
 | n+1,k,i=>
   if k < mn then(f i).flatMap (repO f mn mx md n (k+1))
   else if md=1 then i::(if mx = -1∨k < mx then(f i).flatMap (repO f mn mx md n (k+1)) else [])
   else(if mx = -1∨k < mx then(f i).flatMap (repO f mn mx md n (k+1)) else [])++[i]
def repC (f:Nat→List Nat) (g:Nat→Nat) (mn mx:Int):Nat→Int→Nat→Nat
 | 0,_,_=>0
 | n+1,k,i=>1+(if k < mn∨mx = -1∨k < mx then g i+((f i).map (repC f g mn mx n (k+1))).sum else 0)
mutual
def outs (t:List Int):Re→Nat→List Nat
 | .mk op set kids mn mx md n neg,i=>
   if op=1 then(match t[i]? with
    | some x=>if hasSpan set x=true then [i+1] else []
    | none=>[])
   else if op=2 then outsC t kids i
   else if op=3 then outsA t kids i
   else if op=4 then repO (outsH t kids) mn mx md (t.length+1 - i) 0 i
   else if op=5 then outsH t kids i
   else if op=11 then(if assertI n (befS t i) t[i]?=true then [i] else [])
   else [i]
def outsC (t:List Int):List Re→Nat→List Nat
 | [],i=>[i]
 | k::ks,i=>(outs t k i).flatMap (outsC t ks)
def outsA (t:List Int):List Re→Nat→List Nat
 | [],_=>[]
 | k::ks,i=>outs t k i++outsA t ks i
def outsH (t:List Int):List Re→Nat→List Nat
 | [],_=>[]
 | k::_,i=>outs t k i
end
mutual
def costR (t:List Int):Re→Nat→Nat
 | .mk op set kids mn mx md n neg,i=>
   if op=2 then 1+costRC t kids i
   else if op=3 then 1+costRA t kids i
   else if op=4 then repC (outsH t kids) (costRH t kids) mn mx (t.length+1 - i) 0 i
   else if op=5 then 1+costRH t kids i
   else 1
def costRC (t:List Int):List Re→Nat→Nat
 | [],_=>0
 | k::ks,i=>costR t k i+((outs t k i).map (costRC t ks)).sum
def costRA (t:List Int):List Re→Nat→Nat
 | [],_=>0
 | k::ks,i=>costR t k i+costRA t ks i
def costRH (t:List Int):List Re→Nat→Nat
 | [],_=>0
 | k::_,i=>costR t k i
end
theorem zJt {f:Nat→List Nat} {mn mx md:Int} {L:Nat} (hf:∀ i,i≤L→∀ j∈f i,i≤j∧j≤L):∀(n:Nat) (k:Int) (i:Nat),i≤L→∀ j∈repO f mn mx md n k i,i≤j∧j≤L
 | 0,_,_,_,j,h=>by simp[repO]at h
 | n+1,k,i,hi,j,h=>by
   have A:∀ j∈(f i).flatMap (repO f mn mx md n (k+1)),i≤j∧j≤L:=fun j h=>by
    obtain⟨m,hm,h⟩:=List.mem_flatMap.1 h
    have h1:=hf i hi m hm
    have h2:=zJt hf n (k+1) m h1.2 j h
    omega
   rw[repO]at h
   split at h
   ·exact A j h
   ·split at h
    ·rcases List.mem_cons.1 h with rfl|h
     ·exact⟨Nat.le_refl _,hi⟩
     ·split at h
      ·exact A j h
      ·simp at h
    ·rcases List.mem_append.1 h with h|h
     ·split at h
      ·exact A j h
      ·simp at h
     ·rw[List.mem_singleton.1 h];exact⟨Nat.le_refl _,hi⟩
mutual
theorem zDz (t:List Int):∀(r:Re) (i:Nat),i≤t.length→∀ j∈outs t r i,i≤j∧j≤t.length
 | .mk op set kids mn mx md n neg,i,hi,j,h=>by
   have hC:=zHi t kids
   have hA:=zKk t kids
   have hH:=zKj t kids
   rw[outs]at h
   split at h
   ·split at h
    ·rename_i x hx
     have:=(List.getElem?_eq_some_iff.1 hx).1
     split at h
     ·rw[List.mem_singleton.1 h];omega
     ·simp at h
    ·simp at h
   ·split at h
    ·exact hC i hi j h
    ·split at h
     ·exact hA i hi j h
     ·split at h
      ·exact zJt hH _ _ i hi j h
      ·split at h
       ·exact hH i hi j h
       ·split at h
        ·split at h
         ·rw[List.mem_singleton.1 h];omega
         ·simp at h
        ·rw[List.mem_singleton.1 h];omega
theorem zHi (t:List Int):∀(l:List Re) (i:Nat),i≤t.length→∀ j∈outsC t l i,i≤j∧j≤t.length
 | [],i,hi,j,h=>by rw[outsC,List.mem_singleton]at h;omega
 | k::ks,i,hi,j,h=>by
   rw[outsC]at h
   obtain⟨m,hm,h⟩:=List.mem_flatMap.1 h
   have h1:=zDz t k i hi m hm
   have h2:=zHi t ks m h1.2 j h
   omega
theorem zKk (t:List Int):∀(l:List Re) (i:Nat),i≤t.length→∀ j∈outsA t l i,i≤j∧j≤t.length
 | [],i,hi,j,h=>by simp[outsA]at h
 | k::ks,i,hi,j,h=>by
   rw[outsA]at h
   rcases List.mem_append.1 h with h|h
   ·exact zDz t k i hi j h
   ·exact zKk t ks i hi j h
theorem zKj (t:List Int):∀(l:List Re) (i:Nat),i≤t.length→∀ j∈outsH t l i,i≤j∧j≤t.length
 | [],i,hi,j,h=>by simp[outsH]at h
 | k::ks,i,hi,j,h=>by
   rw[outsH]at h
   exact zDz t k i hi j h
end
theorem zMv {f:Nat→List Nat} {mn mx md:Int} {L:Nat} (hf:∀ i,i≤L→∀ j∈f i,i < j∧j≤L) (hm:0 < mn):∀(n:Nat) (i:Nat),i≤L→∀ j∈repO f mn mx md n 0 i,i < j
 | 0,_,_,j,h=>by simp[repO]at h
 | n+1,i,hi,j,h=>by
   rw[repO,if_pos hm]at h
   obtain⟨m,hm',h⟩:=List.mem_flatMap.1 h
   have h1:=hf i hi m hm'
   have h2:=zJt (fun i hi j hj=>⟨Nat.le_of_lt (hf i hi j hj).1,(hf i hi j hj).2⟩) n _ m h1.2 j h
   omega
mutual
theorem zFw (t:List Int):∀(r:Re) (i:Nat),nullG r=false→codable r=true→i≤t.length→∀ j∈outs t r i,i < j
 | .mk op set kids mn mx md n neg,i,hn,hc,hi,j,h=>by
   have hC:=zIy t kids
   have hA:=zIz t kids
   have hH:=zL2 t kids
   rw[codable,Bool.and_eq_true,Bool.or_eq_true,decide_eq_true_eq,beq_iff_eq]at hc
   rw[nullG]at hn
   rw[outs]at h
   split at h
   ·split at h
    ·split at h
     ·rw[List.mem_singleton.1 h];omega
     ·simp at h
    ·simp at h
   ·rename_i h1
    rw[if_neg h1]at hn
    split at h
    ·rename_i h2
     rw[if_pos h2]at hn
     exact hC i hn hc.2 hi j h
    ·rename_i h2
     rw[if_neg h2]at hn
     split at h
     ·rename_i h3
      rw[if_pos (.inl h3)]at hn
      exact hA i hn hc.2 hi j h
     ·rename_i h3
      rw[if_neg (by omega)]at hn
      split at h
      ·rename_i h4
       rw[if_pos h4,Bool.or_eq_false_iff,decide_eq_false_iff_not]at hn
       refine zMv (L:=t.length) ?_ (by omega) _ i hi j h
       intro i hi j hj
       exact⟨hH i hn.2 hc.2 hi j hj,(zKj t kids i hi j hj).2⟩
      ·rename_i h4
       rw[if_neg h4]at hn
       split at h
       ·rename_i h5
        rw[if_pos (.inl h5)]at hn
        exact hH i hn hc.2 hi j h
       ·rename_i h5
        rw[if_neg (by omega)]at hn
        cases hn
theorem zIy (t:List Int):∀(l:List Re) (i:Nat),nullAll l=false→codableL l=true→i≤t.length→∀ j∈outsC t l i,i < j
 | [],i,hn,_,hi,j,h=>by simp[nullAll]at hn
 | k::ks,i,hn,hc,hi,j,h=>by
   rw[codableL,Bool.and_eq_true]at hc
   rw[nullAll,Bool.and_eq_false_iff]at hn
   rw[outsC]at h
   obtain⟨m,hm,h⟩:=List.mem_flatMap.1 h
   have h1:=zDz t k i hi m hm
   have h2:=zHi t ks m h1.2 j h
   rcases hn with hn|hn
   ·have:=zFw t k i hn hc.1 hi m hm
    omega
   ·have:=zIy t ks m hn hc.2 h1.2 j h
    omega
theorem zIz (t:List Int):∀(l:List Re) (i:Nat),nullAny l=false→codableL l=true→i≤t.length→∀ j∈outsA t l i,i < j
 | [],i,hn,_,hi,j,h=>by simp[outsA]at h
 | k::ks,i,hn,hc,hi,j,h=>by
   rw[codableL,Bool.and_eq_true]at hc
   rw[nullAny,Bool.or_eq_false_iff]at hn
   rw[outsA]at h
   rcases List.mem_append.1 h with h|h
   ·exact zFw t k i hn.1 hc.1 hi j h
   ·exact zIz t ks i hn.2 hc.2 hi j h
theorem zL2 (t:List Int):∀(l:List Re) (i:Nat),nullHd l=false→codableL l=true→i≤t.length→∀ j∈outsH t l i,i < j
 | [],i,hn,_,hi,j,h=>by simp[outsH]at h
 | k::ks,i,hn,hc,hi,j,h=>by
   rw[codableL,Bool.and_eq_true]at hc
   rw[nullHd]at hn
   rw[outsH]at h
   exact zFw t k i hn hc.1 hi j h
end
def RLe (R R':RunT):Prop:=∀ g i c s x,R g i c s=some x→R' g i c s=some x
theorem zHj {a a':Option (Bool×SS)} {f f':SS→Option (Bool×SS)} {x} (h1:∀ y,a=some y→a' = some y) (h2:∀ s y,f s=some y→f' s=some y) (h:orR a f=some x):orR a' f' = some x:=by
 unfold orR at h ⊢
 cases ha:a with
 | none=>rw[ha]at h;cases h
 | some q=>
   rw[ha]at h
   rw[h1 _ ha]
   obtain⟨b,s⟩:=q
   cases b with
   | true=>exact h
   | false=>exact h2 _ _ h
theorem zIu {fuel:Int} {R R':RunT} (h:RLe R R') {re:Re} {k:Int} {next:Goal} {i:Int} {c:Caps} {s:SS} {x} (he:repR fuel R re k next i c s=some x):repR fuel R' re k next i c s=some x:=by
 unfold repR at he ⊢
 simp only at he ⊢
 by_cases h1:(stepSz fuel s).empty=true
 ·rw[if_pos h1]at he ⊢;exact he
 ·rw[if_neg h1]at he ⊢
  cases hk:re.kids with
  | nil=>rw[hk]at he;cases he
  | cons kid ks=>
    rw[hk]at he
    simp only at he ⊢
    by_cases h2:k < re.mn
    ·rw[if_pos h2]at he ⊢;exact h _ _ _ _ _ he
    ·rw[if_neg h2]at he ⊢
     by_cases h3:re.md=1
     ·rw[if_pos h3]at he ⊢
      refine zHj (fun y e=>h _ _ _ _ _ e) (fun s2 y e=>?_) he
      split at e<;>split
      ·exact h _ _ _ _ _ e
      ·contradiction
      ·contradiction
      ·exact e
     ·rw[if_neg h3]at he ⊢
      refine zHj (fun y e=>?_) (fun s2 y e=>h _ _ _ _ _ e) he
      split at e<;>split
      ·exact h _ _ _ _ _ e
      ·contradiction
      ·contradiction
      ·exact e
theorem zGm {R R':RunT} (h:RLe R R') {next:Goal} {i:Int} {c:Caps}:∀ {l:List Re} {s:SS} {x},altR R next i c l s=some x→altR R' next i c l s=some x
 | [],s,x,he=>he
 | k::ks,s,x,he=>by
   simp only[altR]at he ⊢
   exact zHj (fun y e=>h _ _ _ _ _ e) (fun s2 y e=>zGm h e) he
theorem zLF {t:List Int} {fuel:Int} {R R':RunT} (h:RLe R R') {re:Re} {next:Goal} {i:Int} {c:Caps} {s:SS} {x} (he:nodeR t fuel R re next i c s=some x):nodeR t fuel R' re next i c s=some x:=by
 unfold nodeR at he ⊢
 by_cases h4:re.op=4
 ·rw[if_pos h4]at he ⊢;exact zIu h he
 ·rw[if_neg h4]at he ⊢
  simp only at he ⊢
  by_cases h1:(stepSz fuel s).empty=true
  ·rw[if_pos h1]at he ⊢;exact he
  ·rw[if_neg h1]at he ⊢
   by_cases a1:re.op=1
   ·rw[if_pos a1]at he ⊢
    cases hx:t[i.toNat]? with
    | none=>rw[hx]at he;exact he
    | some y=>
      rw[hx]at he
      simp only at he ⊢
      by_cases hh:hasSpan re.set y=true
      ·rw[if_pos hh]at he ⊢;exact h _ _ _ _ _ he
      ·rw[if_neg hh]at he ⊢;exact he
   ·rw[if_neg a1]at he ⊢
    by_cases a2:re.op=2
    ·rw[if_pos a2]at he ⊢;exact h _ _ _ _ _ he
    ·rw[if_neg a2]at he ⊢
     by_cases a3:re.op=3
     ·rw[if_pos a3]at he ⊢;exact zGm h he
     ·rw[if_neg a3]at he ⊢
      by_cases a5:re.op=5
      ·rw[if_pos a5]at he ⊢
       cases hk:re.kids with
       | nil=>rw[hk]at he;cases he
       | cons kid ks=>rw[hk]at he;exact h _ _ _ _ _ he
      ·rw[if_neg a5]at he ⊢
       by_cases a11:re.op=11
       ·rw[if_pos a11]at he ⊢
        by_cases hh:assertI re.n (befS t i.toNat) t[i.toNat]?=true
        ·rw[if_pos hh]at he ⊢;exact h _ _ _ _ _ he
        ·rw[if_neg hh]at he ⊢;exact he
       ·rw[if_neg a11]at he ⊢;exact h _ _ _ _ _ he
theorem zIr (t:List Int) (fuel:Int):∀ d,RLe (runG t fuel d) (runG t fuel (d+1))
 | 0=>fun g i c s x h=>by cases g<;>simp[runG]at h
 | d+1=>fun g i c s x h=>by
   have ih:=zIr t fuel d
   cases g with
   | nil=>simpa [runG] using h
   | mk kind re k fr next=>
     rw[runG]at h ⊢
     by_cases k1:kind=1
     ·rw[if_pos k1]at h ⊢;exact zIu ih h
     ·rw[if_neg k1]at h ⊢
      by_cases k2:kind=2
      ·rw[if_pos k2]at h ⊢
       by_cases hc:re.mn≤k∧i=fr
       ·rw[if_pos hc]at h ⊢;exact h
       ·rw[if_neg hc]at h ⊢;exact ih _ _ _ _ _ h
      ·rw[if_neg k2]at h ⊢
       by_cases k3:kind=3
       ·rw[if_pos k3]at h ⊢;exact ih _ _ _ _ _ h
       ·rw[if_neg k3]at h ⊢;exact zLF ih h
theorem zHf (t:List Int) (fuel:Int) {d d':Nat} (h:d≤d'):RLe (runG t fuel d) (runG t fuel d'):=by
 induction h with
 | refl=>exact fun _ _ _ _ _ h=>h
 | step h ih=>exact fun g i c s x e=>zIr t fuel _ g i c s x (ih g i c s x e)
variable (caps top:Int) (t:List Int) (fuel:Int)
def RT (g:Goal) (i n:Nat):Prop:=∀(c:Caps) (s:SS),GG caps top t.length s.steps g→c.length≤1000→SPre fuel s →
 ∃ d b s',runG t fuel d g i c s=some (b,s')∧SPost fuel s b s'∧(b=false→s'.steps=s.steps+n)
variable {caps top:Int} {t:List Int} {fuel:Int}
theorem RT.of {g:Goal} {i n:Nat} (hi:i≤t.length) (h:∀(c:Caps) (s:SS),GG caps top t.length s.steps g→c.length≤1000→SPre fuel s→∃ d b s',runG t fuel d g i c s=some (b,s')∧(b=false→s'.steps=s.steps+n)):RT caps top t fuel g i n:=
 fun c s hg hc hs=>by
  obtain⟨d,b,s',h1,h2⟩:=h c s hg hc hs
  exact⟨d,b,s',h1,zF9 caps top t fuel d g i c s b s' hg (by omega) (by omega) hc hs h1,h2⟩
theorem RT.nil {i:Nat} (hi:i≤t.length):RT caps top t fuel .nil i 0:=RT.of hi fun c s _ _ hs=>⟨1,false,_,rfl,fun _=>by simp⟩
theorem zFz {α:Type} (l:List α) (f:α→List Nat) (κ:Nat→Nat):((l.flatMap f).map κ).sum=(l.map fun j=>((f j).map κ).sum).sum:=by
 induction l with
 | nil=>rfl
 | cons a l ih=>simp[ih]
theorem zLa {α:Type} (l:List α) (f g:α→Nat):(l.map fun j=>f j+g j).sum=(l.map f).sum+(l.map g).sum:=by
 induction l with
 | nil=>rfl
 | cons a l ih=>simp[ih];omega
variable {caps top:Int} {t:List Int} {fuel:Int}
theorem zLl {g1 g2:Goal} {i n1 n2:Nat} (hi:i≤t.length) (h1:RT caps top t fuel g1 i n1) (h2:RT caps top t fuel g2 i n2) {c:Caps} {s:SS} (hg1:GG caps top t.length s.steps g1) (hg2:GG caps top t.length s.steps g2)
  (hc:c.length≤1000) (hs:SPre fuel s) (hx:(s.ends.length:Int)≤256 * s.steps - 256) :
  ∃ d b s',orR (runG t fuel d g1 i c s) (runG t fuel d g2 i c)=some (b,s')∧(b=false→s'.steps=s.steps+(n1+n2:Nat)):=by
 obtain⟨d1,b1,s1,e1,q1,m1⟩:=h1 c s hg1 hc hs
 cases b1 with
 | true=>exact⟨d1,true,s1,by rw[e1];rfl,fun h=>by cases h⟩
 | false=>
   obtain⟨d2,b2,s2,e2,q2,m2⟩:=h2 c s1 (hg2.mono q1.st) hc (q1.pre hs hx)
   refine⟨max d1 d2,b2,s2,?_,fun h=>?_⟩
   ·rw[zHf t fuel (Nat.le_max_left d1 d2) _ _ _ _ _ e1]
    exact zHf t fuel (Nat.le_max_right d1 d2) _ _ _ _ _ e2
   ·have a:=m1 rfl
    have b:=m2 h
    omega
def RTRep (caps top:Int) (t:List Int) (fuel:Int) (re:Re) (k:Int) (next:Goal) (i m:Nat):Prop:=
 ∀(c:Caps) (s:SS),0≤k∧k≤s.steps→GG caps top t.length s.steps next→c.length≤1000→SPre fuel s →
  ∃ d b s',repR fuel (runG t fuel d) re k next i c s=some (b,s')∧(b=false→s'.steps=s.steps+m)
theorem zKf {re kid:Re} (h:RGood caps top re) (ho:re.op=4) (hkid:re.kids=[kid]) (hgk:RGood caps top kid) {next:Goal} {κ:Nat→Nat}
  (hpos:∀ i,i≤t.length→∀ j∈outs t kid i,i < j∧j≤t.length)
  (hK:∀(nx:Goal) (i:Nat) (κ':Nat→Nat),i≤t.length→(∀ j∈outs t kid i,RT caps top t fuel nx j (κ' j))→RT caps top t fuel (.mk 0 kid 0 0 nx) i (costR t kid i+((outs t kid i).map κ').sum)) :
  ∀(n:Nat) (k:Int) (i:Nat),i≤t.length→t.length+1 - i≤n→(∀ j∈repO (outs t kid) re.mn re.mx re.md n k i,RT caps top t fuel next j (κ j)) →
   RTRep caps top t fuel re k next i (repC (outs t kid) (costR t kid) re.mn re.mx n k i+((repO (outs t kid) re.mn re.mx re.md n k i).map κ).sum)
 | 0,k,i,hi,hn,_=>by omega
 | n+1,k,i,hi,hn,hx=>by
   intro c s hk hg hc hs
   by_cases he:(stepSz fuel s).empty=true
   ·exact⟨0,true,stepSz fuel s,by unfold repR;simp only;rw[if_pos he],fun h=>by cases h⟩
   obtain⟨p1,p2⟩:=zCm hs (by simpa using he)
   have hst:(stepSz fuel s).steps=s.steps+1:=rfl
   have hg1:=hg.mono (show s.steps≤(stepSz fuel s).steps by omega)
   have hon:=zGE (next:=next) (i:=i) (L:=t.length) (steps:=(stepSz fuel s).steps) h hgk ho (k:=k) ⟨hk.1,by omega⟩ ⟨by omega,by omega⟩ hg1
   have once:(∀ j∈(outs t kid i).flatMap (repO (outs t kid) re.mn re.mx re.md n (k+1)),RT caps top t fuel next j (κ j)) →
     RT caps top t fuel (.mk 0 kid 0 0 (.mk 2 re k i next)) i (costR t kid i+((outs t kid i).map (repC (outs t kid) (costR t kid) re.mn re.mx n (k+1))).sum+(((outs t kid i).flatMap (repO (outs t kid) re.mn re.mx re.md n (k+1))).map κ).sum):=by
    intro hf
    rw[zFz,Nat.add_assoc,← zLa]
    refine hK _ i _ hi fun j hj=>?_
    have hij:=hpos i hi j hj
    refine RT.of hij.2 fun c s hg hc hs=>?_
    obtain⟨g1,g2,g3,g4⟩:=hg
    obtain⟨d,b,s',e,m⟩:=zKf h ho hkid hgk hpos hK n (k+1) j hij.2 (by omega) (fun q hq=>hf q (List.mem_flatMap.2 ⟨j,hj,hq⟩)) c s (by omega) g4 hc hs
    refine⟨d+2,b,s',?_,m⟩
    rw[runG,if_neg (by decide),if_pos rfl,if_neg (by omega),runG,if_pos rfl]
    exact e
   rw[repO]at hx ⊢
   rw[repC]
   by_cases hm:k < re.mn
   ·rw[if_pos hm]at hx ⊢
    rw[if_pos (.inl hm)]
    obtain⟨d,b,s',e,q,m⟩:=once hx c _ hon hc p1
    refine⟨d,b,s',?_,fun hb=>?_⟩
    ·unfold repR;simp only;rw[if_neg he,hkid];simp only;rw[if_pos hm];exact e
    ·have:=m hb;omega
   ·rw[if_neg hm]at hx ⊢
    by_cases hM:re.mx = -1∨k < re.mx
    ·have hmore:(decide (re.mx = -1) || decide (k < re.mx))=true:=by simpa using hM
     rw[if_pos (.inr hM)]
     simp only[if_pos hM]at hx ⊢
     by_cases hd:re.md=1
     ·rw[if_pos hd]at hx ⊢
      obtain⟨d,b,s',e,m⟩:=zLl hi (hx i (by simp)) (once fun j hj=>hx j (List.mem_cons_of_mem _ hj)) hg1 hon hc p1 (by omega)
      refine⟨d,b,s',?_,fun hb=>?_⟩
      ·unfold repR;simp only;rw[if_neg he,hkid];simp only;rw[if_neg hm,if_pos hd];simp only[hmore,if_true];exact e
      ·have:=m hb
       simp only[List.map_cons,List.sum_cons]
       omega
     ·rw[if_neg hd]at hx ⊢
      obtain⟨d,b,s',e,m⟩:=zLl hi (once fun j hj=>hx j (List.mem_append_left _ hj)) (hx i (by simp)) hon hg1 hc p1 (by omega)
      refine⟨d,b,s',?_,fun hb=>?_⟩
      ·unfold repR;simp only;rw[if_neg he,hkid];simp only;rw[if_neg hm,if_neg hd];simp only[hmore,if_true];exact e
      ·have:=m hb
       simp only[List.map_append,List.sum_append,List.map_cons,List.map_nil,List.sum_cons,List.sum_nil]
       omega
    ·have hmore:(decide (re.mx = -1) || decide (k < re.mx))=false:=by
      simp only[Bool.or_eq_false_iff,decide_eq_false_iff_not];omega
     rw[if_neg (by omega)]
     simp only[if_neg hM]at hx ⊢
     have hO:(if re.md=1 then [i] else []++[i])=[i]:=by split<;>rfl
     rw[hO]at hx ⊢
     obtain⟨d,b,s',e,q,m⟩:=hx i (by simp) c _ hg1 hc p1
     refine⟨d,b,s',?_,fun hb=>?_⟩
     ·unfold repR;simp only;rw[if_neg he,hkid];simp only;rw[if_neg hm];simp only[hmore]
      split
      ·rw[e];cases b with
       | true=>rfl
       | false=>rfl
      ·exact e
     ·have:=m hb
      simp only[List.map_cons,List.map_nil,List.sum_cons,List.sum_nil]
      omega
mutual
def lpG:Re→Bool
 | .mk op set kids mn mx md n neg=>!(decide (op=4) && nullHd kids) && lpL kids
def lpL:List Re→Bool
 | []=>true
 | k::ks=>lpG k && lpL ks
end
mutual
theorem zKh (caps top:Int) (t:List Int) (fuel:Int):∀ r:Re,RGood caps top r→lpG r=true→∀(k fr:Int) (next:Goal) (i:Nat) (κ:Nat→Nat),i≤t.length →
  (∀ j∈outs t r i,RT caps top t fuel next j (κ j))→RT caps top t fuel (.mk 0 r k fr next) i (costR t r i+((outs t r i).map κ).sum)
 | .mk op set kids mn mx md n neg,hr,hcp,k,fr,next,i,κ,hi,hx=>by
   have hkids:∀ k∈kids,RGood caps top k:=hr.kids
   have hC:=fun h next κ=>zMb caps top t fuel kids hkids h next i κ hi
   have hA:=fun h next κ=>zMj caps top t fuel kids hkids h next i κ hi
   have hH:=fun h next i κ hi=>hd_run caps top t fuel kids hkids h next i κ hi
   have hop:=hr.good.op
   have hlen:=hr.len
   rw[lpG,Bool.and_eq_true]at hcp
   obtain⟨hcp0,hcp⟩:=hcp
   refine RT.of hi fun c s hg hc hs=>?_
   obtain⟨g1,g2,g3,g4⟩:=hg
   by_cases h4:op=4
   ·subst h4
    have hnl:nullHd kids=false:=by simpa using hcp0
    obtain⟨kid,hkid,hgk⟩:=zJs hr rfl
    simp only[Re.kids]at hkid
    subst hkid
    have ho:∀ i,outs t (.mk 4 set [kid] mn mx md n neg) i=repO (outs t kid) mn mx md (t.length+1 - i) 0 i:=fun i=>by
     rw[outs,if_neg (by decide),if_neg (by decide),if_neg (by decide),if_pos rfl]
     congr 1
    have hcst:∀ i,costR t (.mk 4 set [kid] mn mx md n neg) i=repC (outs t kid) (costR t kid) mn mx (t.length+1 - i) 0 i:=fun i=>by
     rw[costR,if_neg (by decide),if_neg (by decide),if_pos rfl]
     congr 1
    rw[ho]at hx
    rw[ho,hcst]
    rw[lpL,Bool.and_eq_true]at hcp
    obtain⟨d,b,s',e,m⟩:=zKf (κ:=κ) hr rfl rfl hgk (fun i hi j hj=>⟨zFw t kid i (by rw[nullHd]at hnl;exact hnl) hgk.good.cod hi j hj,(zDz t kid i hi j hj).2⟩)
     (fun nx i κ' hi h=>hH (by rw[lpL,lpL,hcp.1];rfl) nx i κ' hi h) (t.length+1 - i) 0 i hi (Nat.le_refl _) hx c s ⟨Int.le_refl _,hs.st.1⟩ g4 hc hs
    refine⟨d+1,b,s',?_,m⟩
    rw[runG,if_neg (by decide),if_neg (by decide),if_neg (by decide),nodeR,if_pos (by rfl)]
    exact e
   ·by_cases he:(stepSz fuel s).empty=true
    ·refine⟨1,true,stepSz fuel s,?_,fun h=>by cases h⟩
     rw[runG,if_neg (by decide),if_neg (by decide),if_neg (by decide),nodeR,if_neg (by exact h4)]
     simp only
     rw[if_pos he]
    ·obtain⟨p1,p2⟩:=zCm hs (by simpa using he)
     have hst:(stepSz fuel s).steps=s.steps+1:=rfl
     have hg1:=g4.mono (show s.steps≤(stepSz fuel s).steps by omega)
     rcases hop with rfl|rfl|rfl|rfl|rfl|rfl|rfl
     ·have ho:outs t (.mk 0 set kids mn mx md n neg) i=[i]:=by rw[outs];simp
      have hcst:costR t (.mk 0 set kids mn mx md n neg) i=1:=by rw[costR];simp
      rw[ho]at hx;rw[ho,hcst]
      obtain⟨d,b,s',e,q,m⟩:=hx i (by simp) c _ hg1 hc p1
      refine⟨d+1,b,s',?_,fun hb=>by have:=m hb;simp only[List.map_cons,List.map_nil,List.sum_cons,List.sum_nil];omega⟩
      simp[runG,nodeR,Re.op,he,e]
     ·have hcst:costR t (.mk 1 set kids mn mx md n neg) i=1:=by rw[costR];simp
      rw[outs,if_pos rfl]at hx ⊢
      rw[hcst]
      cases hti:t[i]? with
      | none=>
        refine⟨1,false,stepSz fuel s,?_,fun _=>by simp;omega⟩
        simp[runG,nodeR,Re.op,he,hti]
      | some x=>
        rw[hti]at hx
        by_cases hh:hasSpan set x=true
        ·simp only[if_pos hh]at hx ⊢
         obtain⟨d,b,s',e,q,m⟩:=hx (i+1) (by simp) c _ hg1 hc p1
         refine⟨d+1,b,s',?_,fun hb=>by have:=m hb;simp only[List.map_cons,List.map_nil,List.sum_cons,List.sum_nil];omega⟩
         simp only[Int.natCast_add,Int.natCast_one]at e
         simp[runG,nodeR,Re.op,Re.set,he,hti,hh,e]
        ·simp only[if_neg hh]at hx ⊢
         refine⟨1,false,stepSz fuel s,?_,fun _=>by simp;omega⟩
         simp[runG,nodeR,Re.op,Re.set,he,hti,hh]
     ·have ho:outs t (.mk 2 set kids mn mx md n neg) i=outsC t kids i:=by rw[outs];simp
      have hcst:costR t (.mk 2 set kids mn mx md n neg) i=1+costRC t kids i:=by rw[costR];simp
      rw[ho]at hx;rw[ho,hcst]
      obtain⟨d,b,s',e,q,m⟩:=hC hcp next κ hx c _ (GG.cat (by omega) hg1 hkids) hc p1
      refine⟨d+1,b,s',?_,fun hb=>by have:=m hb;omega⟩
      simp[runG,nodeR,Re.op,Re.kids,he,e]
     ·have ho:outs t (.mk 3 set kids mn mx md n neg) i=outsA t kids i:=by rw[outs];simp
      have hcst:costR t (.mk 3 set kids mn mx md n neg) i=1+costRA t kids i:=by rw[costR];simp
      rw[ho]at hx;rw[ho,hcst]
      simp only[Re.kids]at hlen
      obtain⟨d,b,s',e,m⟩:=hA hcp next κ hx c _ hg1 hc p1 (by omega)
      refine⟨d+1,b,s',?_,fun hb=>by have:=m hb;omega⟩
      simp[runG,nodeR,Re.op,Re.kids,he,e]
     ·exact absurd rfl h4
     ·have ho:outs t (.mk 5 set kids mn mx md n neg) i=outsH t kids i:=by rw[outs];simp
      have hcst:costR t (.mk 5 set kids mn mx md n neg) i=1+costRH t kids i:=by rw[costR];simp
      rw[ho]at hx;rw[ho,hcst]
      obtain⟨kid,hkid,hgk⟩:=zKK hr rfl
      simp only[Re.kids]at hkid
      subst hkid
      have e1:outsH t [kid] i=outs t kid i:=by rw[outsH]
      have e2:costRH t [kid] i=costR t kid i:=by rw[costRH]
      rw[e1]at hx
      rw[e1,e2]
      obtain⟨d,b,s',e,q,m⟩:=hH hcp (.mk 3 (.mk 5 set [kid] mn mx md n neg) 0 i next) i κ hi (fun j hj=>by
       have hj2:=(zDz t kid i hi j hj).2
       refine RT.of hj2 fun c s hg hc hs=>?_
       obtain⟨g1,g2,g3,g4⟩:=hg
       obtain⟨d,b,s',e,q,m⟩:=hx j hj (withI c n i j) s g4 (by rw[zHW];exact hc) hs
       refine⟨d+1,b,s',?_,m⟩
       rw[runG,if_neg (by decide),if_neg (by decide),if_pos rfl]
       exact e) c _ ⟨hgk,.inl rfl,⟨Int.le_refl _,by omega⟩,hr,.inr (.inr (.inr ⟨rfl,rfl⟩)),⟨by omega,by omega⟩,hg1⟩ hc p1
      refine⟨d+1,b,s',?_,fun hb=>by have:=m hb;omega⟩
      rw[runG,if_neg (by decide),if_neg (by decide),if_neg (by decide),nodeR,if_neg (by exact h4)]
      simp only
      rw[if_neg he]
      simp only[Re.op,Re.kids,show ¬(5:Int)=1 by decide,show ¬(5:Int)=2 by decide,show ¬(5:Int)=3 by decide,if_false,if_true]
      exact e
     ·have hcst:costR t (.mk 11 set kids mn mx md n neg) i=1:=by rw[costR];simp
      have ho:outs t (.mk 11 set kids mn mx md n neg) i=if assertI n (befS t i) t[i]?=true then [i] else []:=by rw[outs];simp
      rw[ho]at hx;rw[ho,hcst]
      by_cases hh:assertI n (befS t i) t[i]?=true
      ·simp only[if_pos hh]at hx ⊢
       obtain⟨d,b,s',e,q,m⟩:=hx i (by simp) c _ hg1 hc p1
       refine⟨d+1,b,s',?_,fun hb=>by have:=m hb;simp only[List.map_cons,List.map_nil,List.sum_cons,List.sum_nil];omega⟩
       simp[runG,nodeR,Re.op,Re.n,he,hh,e]
      ·simp only[if_neg hh]at hx ⊢
       refine⟨1,false,stepSz fuel s,?_,fun _=>by simp;omega⟩
       simp[runG,nodeR,Re.op,Re.n,he,hh]
theorem zMb (caps top:Int) (t:List Int) (fuel:Int):∀ l:List Re,(∀ k∈l,RGood caps top k)→lpL l=true→∀(next:Goal) (i:Nat) (κ:Nat→Nat),i≤t.length →
  (∀ j∈outsC t l i,RT caps top t fuel next j (κ j))→RT caps top t fuel (catG next l) i (costRC t l i+((outsC t l i).map κ).sum)
 | [],_,_,next,i,κ,hi,hx=>by
   have:=hx i (by simp[outsC])
   simpa [outsC,costRC,catG] using this
 | k::ks,hr,hcp,next,i,κ,hi,hx=>by
   rw[lpL,Bool.and_eq_true]at hcp
   rw[outsC]at hx ⊢
   rw[costRC,zFz,Nat.add_assoc,← zLa,catG]
   refine zKh caps top t fuel k (hr k (by simp)) hcp.1 0 0 _ i _ hi fun j hj=>?_
   exact zMb caps top t fuel ks (fun q hq=>hr q (by simp[hq])) hcp.2 next j κ (zDz t k i hi j hj).2 fun q hq=>hx q (List.mem_flatMap.2 ⟨j,hj,hq⟩)
theorem zMj (caps top:Int) (t:List Int) (fuel:Int):∀ l:List Re,(∀ k∈l,RGood caps top k)→lpL l=true→∀(next:Goal) (i:Nat) (κ:Nat→Nat),i≤t.length →
  (∀ j∈outsA t l i,RT caps top t fuel next j (κ j))→∀(c:Caps) (s:SS),GG caps top t.length s.steps next→c.length≤1000→SPre fuel s→(s.ends.length:Int)+l.length≤256 * s.steps →
  ∃ d b s',altR (runG t fuel d) next i c l s=some (b,s')∧(b=false→s'.steps=s.steps+(costRA t l i+((outsA t l i).map κ).sum:Nat))
 | [],_,_,next,i,κ,hi,hx=>fun c s hg hc hs hsl=>⟨0,false,s,rfl,fun _=>by simp[costRA,outsA]⟩
 | k::ks,hr,hcp,next,i,κ,hi,hx=>fun c s hg hc hs hsl=>by
   rw[lpL,Bool.and_eq_true]at hcp
   rw[outsA]at hx ⊢
   rw[costRA]
   obtain⟨d1,b1,s1,e1,q1,m1⟩:=zKh caps top t fuel k (hr k (by simp)) hcp.1 0 0 next i κ hi (fun j hj=>hx j (List.mem_append_left _ hj)) c s ⟨hr k (by simp),.inl rfl,⟨Int.le_refl _,by omega⟩,hg⟩ hc hs
   cases b1 with
   | true=>exact⟨d1,true,s1,by rw[altR,e1];rfl,fun h=>by cases h⟩
   | false=>
     have a1:=q1.st
     have a2:=q1.fu rfl
     have a3:=q1.el
     have a4:=hs.st
     simp only[List.length_cons]at hsl
     obtain⟨d2,b2,s2,e2,m2⟩:=zMj caps top t fuel ks (fun q hq=>hr q (by simp[hq])) hcp.2 next i κ hi (fun j hj=>hx j (List.mem_append_right _ hj)) c s1 (hg.mono a1) hc ⟨q1.eb.symm,⟨by omega,a2⟩,q1.cl,by omega⟩ (by omega)
     refine⟨max d1 d2,b2,s2,?_,fun h=>?_⟩
     ·rw[altR,zHf t fuel (Nat.le_max_left d1 d2) _ _ _ _ _ e1]
      exact zGm (zHf t fuel (Nat.le_max_right d1 d2)) e2
     ·have a:=m1 rfl
      have b:=m2 h
      simp only[List.map_append,List.sum_append]
      omega
theorem hd_run (caps top:Int) (t:List Int) (fuel:Int):∀ l:List Re,(∀ k∈l,RGood caps top k)→lpL l=true→∀(next:Goal) (i:Nat) (κ:Nat→Nat),i≤t.length →
  match l with
  | []=>True
  | k::_=>(∀ j∈outs t k i,RT caps top t fuel next j (κ j))→RT caps top t fuel (.mk 0 k 0 0 next) i (costR t k i+((outs t k i).map κ).sum)
 | [],_,_,_,_,_,_=>trivial
 | k::ks,hr,hcp,next,i,κ,hi=>fun hx=>by
   rw[lpL,Bool.and_eq_true]at hcp
   exact zKh caps top t fuel k (hr k (by simp)) hcp.1 0 0 next i κ hi hx
end
end Go.Ev
namespace Go.Ev
attribute [local go_sem] evBin evBuild splice List.length_append tySzE List.head?_drop Nat.mul_one zAP zAU zAN zAQ zAR zAX
section
attribute [local go_sem] evAppend AV.cells List.map_append
open Go.Proofs Go.RowKit Go.IntWalk
set_option maxRecDepth 100000
set_option maxHeartbeats 8000000
theorem f103 (b0 b3:MB) (pc tc:List AV) (hp:AV.plainL pc=true) (htc:AV.plainL tc=true) (caps top:Int) (ht:top≤1114111) (hpc:pc[8]?=some (I caps)) (htc2:tc=[I top]):∀(N:Nat) (r:Re),r.wt≤N→r.wt≤1000000 →
  ∀(d s:Nat) (g:Bool),s≤256→d≤1000000 →
  ∃(ok g':Bool) (s':Nat),call Tryz.prog pol1 85 [.pt (reC r),I d,.rf 1 1 0 0,.rf 2 1 0 0,.pt pc,.pt tc,.rf 4 1 0 0]
    [b0,.row 1 [I s] 0,.row 1 [.bool g] 0,b3,.row 1 [.clo 85 [.rf 1 1 0 0,.rf 2 1 0 0,.pt pc,.pt tc,.rf 4 1 0 0]] 0] =
   some (.bool ok,[b0,.row 1 [I s'] 0,.row 1 [.bool g'] 0,b3,.row 1 [.clo 85 [.rf 1 1 0 0,.rf 2 1 0 0,.pt pc,.pt tc,.rf 4 1 0 0]] 0]) ∧
   ok=decide (s+r.size≤256∧d+r.depth≤25)∧(ok=true→s' = s+r.size∧g' = (g && wholeG caps top r))
 | 0,r,h,_,_,_,_,_,_=>by have:=r.wt_pos;omega
 | N+1,.mk op set kids mn mx md n neg,h,hN,d,s,g,hs,hd=>by
   have hkl:=Re.wtL_len kids
   have hwt:1+set.length+Re.wtL kids=(Re.mk op set kids mn mx md n neg).wt:=by simp[Re.wt]
   have ih:=fun k (hk:k∈kids)=>f103 b0 b3 pc tc hp htc caps top ht hpc htc2 N k (by have:=Re.wtL_mem hk;omega) (by have:=Re.wtL_mem hk;omega)
   have f104':=f104z caps top ht op set kids mn mx md n neg (by omega) (by omega)
   rw[show (.pt (reC (.mk op set kids mn mx md n neg)):AV)=.pt (nodeL op set kids mn mx md n neg) from congrArg AV.pt zCc]
   have hsz:(Re.mk op set kids mn mx md n neg).size=1+Re.sizeL kids:=by simp[Re.size]
   have hdz:(Re.mk op set kids mn mx md n neg).depth=1+Re.depthL kids:=by simp[Re.depth]
   have hwh:wholeG caps top (.mk op set kids mn mx md n neg)=(formedG caps top (.mk op set kids mn mx md n neg) && wholeL caps top kids):=by rw[wholeG]
   have fr:∀(s:Int) (g:Bool),frzArgs pol1 85 0 [.pt (nodeL op set kids mn mx md n neg),I d,.rf 1 1 0 0,.rf 2 1 0 0,.pt pc,.pt tc,.rf 4 1 0 0]
     [b0,.row 1 [I s] 0,.row 1 [.bool g] 0,b3,.row 1 [.clo 85 [.rf 1 1 0 0,.rf 2 1 0 0,.pt pc,.pt tc,.rf 4 1 0 0]] 0] =
     some ([.pt (nodeL op set kids mn mx md n neg),I d,.rf 1 1 0 0,.rf 2 1 0 0,.pt pc,.pt tc,.rf 4 1 0 0],[b0,.row 1 [I s] 0,.row 1 [.bool g] 0,b3,.row 1 [.clo 85 [.rf 1 1 0 0,.rf 2 1 0 0,.pt pc,.pt tc,.rf 4 1 0 0]] 0]):=fun s g=>
    zAO _ _ _ (by simp[mixOk,show pol1.byref 85 2=true from rfl,show pol1.byref 85 3=true from rfl,show pol1.byref 85 4=true from rfl,show pol1.byref 85 5=true from rfl,show pol1.byref 85 6=true from rfl,AV.plain,AV.plainL,zAG,zAL])
   have rt:∀(x:Bool) (s s':Int) (g g':Bool),retPol pol1 85 [b0,.row 1 [I s] 0,.row 1 [.bool g] 0,b3,.row 1 [.clo 85 [.rf 1 1 0 0,.rf 2 1 0 0,.pt pc,.pt tc,.rf 4 1 0 0]] 0] (.bool x) [b0,.row 1 [I s'] 0,.row 1 [.bool g'] 0,b3,.row 1 [.clo 85 [.rf 1 1 0 0,.rf 2 1 0 0,.pt pc,.pt tc,.rf 4 1 0 0]] 0] =
     some (.bool x,[b0,.row 1 [I s'] 0,.row 1 [.bool g'] 0,b3,.row 1 [.clo 85 [.rf 1 1 0 0,.rf 2 1 0 0,.pt pc,.pt tc,.rf 4 1 0 0]] 0]):=fun x s s' g g'=>
    zBB rfl rfl rfl (by simp[keptOk,MB.beq_refl,MB.under,AV.underL,AV.under]) rfl
   have hs1:((s:Int)+1)=((s+1:Nat):Int):=rfl
   subst htc2
   by_cases hc:256 < s+1∨24 < d
   ·refine⟨false,g,s+1,?_,?_,fun h=>by cases h⟩
    ·refine zAY (pol:=pol1) Tryz.func85 rfl rfl rfl rfl (fr s g) ?_
     have hc':256 < s+1∨(¬ 256 < s+1∧24 < d):=by omega
     rcases hc' with h1|⟨h1,h2⟩
     all_goals (
      simp +contextual (disch:=omega) only[Tryz.f85,dd85,go_sem,simprocAttr,mu85,↓zAD,↓zAC,↓zAB,↓zAA,hs1,rt]
      repeat' (first|intro _|apply And.intro|(unfold dOk;kernel_rfl)|exact St.beq_refl _|(show altO _ _ _ _=true;kernel_rfl)|(show (_ || _)=true;kernel_rfl)|(show (_ && _)=true;kernel_rfl)))
    ·rw[hsz,hdz]
     symm;rw[decide_eq_false_iff_not]
     omega
   ·have key:∃ r:AV×List MB,(∃(ok g':Bool) (s':Nat),r=(.bool ok,[b0,.row 1 [I s'] 0,.row 1 [.bool g'] 0,b3,.row 1 [.clo 85 [.rf 1 1 0 0,.rf 2 1 0 0,.pt pc,.pt [I top],.rf 4 1 0 0]] 0]) ∧
      ok=decide (s+(Re.mk op set kids mn mx md n neg).size≤256∧d+(Re.mk op set kids mn mx md n neg).depth≤25)∧(ok=true→s' = s+(Re.mk op set kids mn mx md n neg).size∧g' = (g && wholeG caps top (.mk op set kids mn mx md n neg)))) ∧
      call Tryz.prog pol1 85 [.pt (nodeL op set kids mn mx md n neg),I d,.rf 1 1 0 0,.rf 2 1 0 0,.pt pc,.pt [I top],.rf 4 1 0 0]
       [b0,.row 1 [I s] 0,.row 1 [.bool g] 0,b3,.row 1 [.clo 85 [.rf 1 1 0 0,.rf 2 1 0 0,.pt pc,.pt [I top],.rf 4 1 0 0]] 0]=some r:=by
     rw[hsz,hdz,hwh]
     refine zLS (pol:=pol1) Tryz.func85 rfl rfl rfl rfl (fr s g) ?_
     generalize formedG caps top (.mk op set kids mn mx md n neg)=fg at *
     clear hwh hsz hdz
     have hd0:d≤24:=by omega
     have hs0:s+1≤256:=by omega
     cases g
     ·simp +contextual (disch:=omega) only[Tryz.f85,dd85,go_sem,simprocAttr,mu85,↓zAD,↓zAC,↓zAB,↓zAA,hs1]
      refine zAd (M:=(mskOf (pol1.mask 85) (pol1.gc 85) (pol1.acts 85) 0 6)) rfl kids.length (fun i=>(⟨47,[(32,I i),(31,I kids.length),(6,.rf 4 1 0 0),(1,I d),(0,.pt (nodeL op set kids mn mx md n neg))],[b0,.row 1 [I ((s+1+Re.sizeL (kids.take i):Nat):Int)] 0,.row 1 [.bool (false && wholeL caps top (kids.take i))] 0,b3,.row 1 [.clo 85 [.rf 1 1 0 0,.rf 2 1 0 0,.pt pc,.pt [I top],.rf 4 1 0 0]] 0]⟩:St))
       (fun i=>s+1+Re.sizeL (kids.take i)≤256∧d+1+Re.depthL (kids.take i)≤25) ?_ ?_ ⟨by simp[Re.sizeL];omega,by simp[Re.depthL];omega⟩ _ ?_
      ·rintro i hi ⟨hb1,hb2⟩
       obtain⟨k,hk⟩:∃ k,kids[i]?=some k:=⟨_,List.getElem?_eq_getElem hi⟩
       obtain⟨ok,g2,s2,hcall,hok,himp⟩:=ih k (List.mem_of_getElem? hk) (d+1) (s+1+Re.sizeL (kids.take i)) (false && wholeL caps top (kids.take i)) (by omega) (by omega)
       have e1:=Re.sizeL_take hk
       have e2:=Re.depthL_take hk
       have e3:=zEa (caps:=caps) (top:=top) hk
       have e4:=Re.sizeL_le (l:=kids) (i:=i+1)
       have e5:=Re.depthL_le (l:=kids) (i:=i+1)
       have hl8:=zAM k
       have ht8:=zAT k
       have hd1:((d:Int)+1)=((d+1:Nat):Int):=rfl
       cases ok with
       | false=>
         have hcf:=of_decide_eq_false hok.symm
         simp +contextual (disch:=omega) only[Tryz.f85,dd85,go_sem,simprocAttr,mu85,↓zAD,↓zAC,↓zAB,↓zAA,hk,hl8,ht8,hd1,hcall]
         repeat' (first|intro _|apply And.intro|(unfold dOk;kernel_rfl)|exact St.beq_refl _|(show altO _ _ _ _=true;kernel_rfl)|(show (_ || _)=true;kernel_rfl)|(show (_ && _)=true;kernel_rfl))
         refine⟨_,⟨false,g2,s2,rfl,?_,fun h=>by cases h⟩,rt false _ _ _ _⟩
         symm;rw[decide_eq_false_iff_not];omega
       | true=>
         have hct:=of_decide_eq_true hok.symm
         obtain⟨rfl,rfl⟩:=himp rfl
         rw[e1,e2,e3,← Bool.and_assoc]
         simp +contextual (disch:=omega) only[Tryz.f85,dd85,go_sem,simprocAttr,mu85,↓zAD,↓zAC,↓zAB,↓zAA,hk,hl8,ht8,hd1,hcall]
         repeat' (first|intro _|apply And.intro|(unfold dOk;kernel_rfl)|exact St.beq_refl _|(show altO _ _ _ _=true;kernel_rfl)|(show (_ || _)=true;kernel_rfl)|(show (_ && _)=true;kernel_rfl))
         rw[Nat.add_assoc (s+1)]
         rfl
      ·rintro⟨hb1,hb2⟩
       rw[List.take_length]at hb1 hb2 ⊢
       simp +contextual (disch:=omega) only[Tryz.f85,dd85,go_sem,simprocAttr,mu85,↓zAD,↓zAC,↓zAB,↓zAA]
       refine⟨_,⟨true,(false && wholeL caps top kids),s+1+Re.sizeL kids,rfl,?_,fun _=>⟨by omega,by simp⟩⟩,rt true _ _ _ _⟩
       rfl
      ·rfl
     ·simp +contextual (disch:=omega) only[Tryz.f85,dd85,go_sem,simprocAttr,mu85,↓zAD,↓zAC,↓zAB,↓zAA,hs1,f104',hpc]
      refine zAd (M:=(mskOf (pol1.mask 85) (pol1.gc 85) (pol1.acts 85) 0 6)) rfl kids.length (fun i=>(⟨47,[(32,I i),(31,I kids.length),(6,.rf 4 1 0 0),(1,I d),(0,.pt (nodeL op set kids mn mx md n neg))],[b0,.row 1 [I ((s+1+Re.sizeL (kids.take i):Nat):Int)] 0,.row 1 [.bool (fg && wholeL caps top (kids.take i))] 0,b3,.row 1 [.clo 85 [.rf 1 1 0 0,.rf 2 1 0 0,.pt pc,.pt [I top],.rf 4 1 0 0]] 0]⟩:St))
       (fun i=>s+1+Re.sizeL (kids.take i)≤256∧d+1+Re.depthL (kids.take i)≤25) ?_ ?_ ⟨by simp[Re.sizeL];omega,by simp[Re.depthL];omega⟩ _ ?_
      ·rintro i hi ⟨hb1,hb2⟩
       obtain⟨k,hk⟩:∃ k,kids[i]?=some k:=⟨_,List.getElem?_eq_getElem hi⟩
       obtain⟨ok,g2,s2,hcall,hok,himp⟩:=ih k (List.mem_of_getElem? hk) (d+1) (s+1+Re.sizeL (kids.take i)) (fg && wholeL caps top (kids.take i)) (by omega) (by omega)
       have e1:=Re.sizeL_take hk
       have e2:=Re.depthL_take hk
       have e3:=zEa (caps:=caps) (top:=top) hk
       have e4:=Re.sizeL_le (l:=kids) (i:=i+1)
       have e5:=Re.depthL_le (l:=kids) (i:=i+1)
       have hl8:=zAM k
       have ht8:=zAT k
       have hd1:((d:Int)+1)=((d+1:Nat):Int):=rfl
       cases ok with
       | false=>
         have hcf:=of_decide_eq_false hok.symm
         simp +contextual (disch:=omega) only[Tryz.f85,dd85,go_sem,simprocAttr,mu85,↓zAD,↓zAC,↓zAB,↓zAA,hk,hl8,ht8,hd1,hcall]
         repeat' (first|intro _|apply And.intro|(unfold dOk;kernel_rfl)|exact St.beq_refl _|(show altO _ _ _ _=true;kernel_rfl)|(show (_ || _)=true;kernel_rfl)|(show (_ && _)=true;kernel_rfl))
         refine⟨_,⟨false,g2,s2,rfl,?_,fun h=>by cases h⟩,rt false _ _ _ _⟩
         symm;rw[decide_eq_false_iff_not];omega
       | true=>
         have hct:=of_decide_eq_true hok.symm
         obtain⟨rfl,rfl⟩:=himp rfl
         rw[e1,e2,e3,← Bool.and_assoc]
         simp +contextual (disch:=omega) only[Tryz.f85,dd85,go_sem,simprocAttr,mu85,↓zAD,↓zAC,↓zAB,↓zAA,hk,hl8,ht8,hd1,hcall]
         repeat' (first|intro _|apply And.intro|(unfold dOk;kernel_rfl)|exact St.beq_refl _|(show altO _ _ _ _=true;kernel_rfl)|(show (_ || _)=true;kernel_rfl)|(show (_ && _)=true;kernel_rfl))
         rw[Nat.add_assoc (s+1)]
         rfl
      ·rintro⟨hb1,hb2⟩
       rw[List.take_length]at hb1 hb2 ⊢
       simp +contextual (disch:=omega) only[Tryz.f85,dd85,go_sem,simprocAttr,mu85,↓zAD,↓zAC,↓zAB,↓zAA]
       refine⟨_,⟨true,(fg && wholeL caps top kids),s+1+Re.sizeL kids,rfl,?_,fun _=>⟨by omega,by simp⟩⟩,rt true _ _ _ _⟩
       rfl
      ·rw[show (fg && wholeL caps top (List.take 0 kids))=fg by simp[wholeL]]
       rfl
    obtain⟨r,⟨ok,g',s',rfl,h1,h2⟩,h3⟩:=key
    exact⟨ok,g',s',h3,h1,h2⟩
structure Pat where
 re:Re
 caps:Int
 runes:Bool
abbrev patC (p:Pat):List AV:=reC p.re++[I p.caps,.bool p.runes]
abbrev patAV (p:Pat):AV:=.agg (patC p)
theorem zAx (p:Pat):AV.plainL (patC p)=true:=by
 rw[zFK]
 intro x hx
 rcases List.mem_append.1 hx with h|h
 ·exact(zFK _).1 (zAb p.re) x h
 ·simp at h;rcases h with rfl|rfl<;>rfl
def topI (r:Bool):Int:=if r then 1114111 else 255
theorem zJk (r:Bool):topI r≤1114111:=by cases r<;>simp[topI]
def validP (p:Pat):Int:=if 256 < p.re.size∨24 < p.re.depth then 4 else if p.caps < 0∨9 < p.caps∨wholeG p.caps (topI p.runes) p.re=false then 1 else 0
theorem f48 (p:Pat) (hw:p.re.wt≤1000000) (H:List MB):call Tryz.prog pol1 53 [patAV p] H=some (I (validP p),H):=by
 obtain⟨re,caps,runes⟩:=p
 simp only at hw
 refine zAS Tryz.func53 rfl rfl rfl rfl rfl rfl (fun _=>rfl) (by simp[AV.plainL,AV.plain];exact zAx _) rfl ?_ H
 have hl8:=zAM re
 have hpl:=zAx ⟨re,caps,runes⟩
 have hget8:(reC re++[I caps,.bool runes])[8]?=some (I caps):=by rw[List.getElem?_append_right (by omega),hl8];rfl
 have hget9:(reC re++[I caps,.bool runes])[9]?=some (.bool runes):=by rw[List.getElem?_append_right (by omega),hl8];rfl
 have hz:fz (.rf 0 1 0 0) [.row 10 [.agg (reC re++[I caps,.bool runes])] 0]=some (.pt (reC re++[I caps,.bool runes]),[.row 10 [.agg (reC re++[I caps,.bool runes])] 1]):=
  zJ4 (x:=.agg (reC re++[I caps,.bool runes])) (k:=10) (z:=0) rfl rfl rfl hpl
 have hlen:(reC re).length+(0+1+1)=10:=by omega
 have h102:=f102 runes
 have hall:=zAs re
 have hz2:∀(b0 b1 b2:MB) (t:Int),fz (.rf 3 1 0 0) [b0,b1,b2,.row 1 [I t] 0]=some (.pt [I t],[b0,b1,b2,.row 1 [I t] 1]):=fun b0 b1 b2 t=>zJ4 (x:=I t) (k:=1) (z:=0) rfl rfl rfl rfl
 have htk8:∀ l,List.take 8 (reC re++l)=reC re:=fun l=>by
  rw[List.take_append_of_le_length (by omega)];exact List.take_of_length_le (by omega)
 rw[show (if runes=true then(1114111:Int) else 255)=topI runes from rfl]at h102
 have ht:=zJk runes
 have h103:=fun(b0 b3:MB) (g:Bool)=>f103 b0 b3 (reC re++[I caps,.bool runes]) [I (topI runes)] hpl rfl caps (topI runes) ht hget8 rfl re.wt re (Nat.le_refl _) hw 1 0 g (by omega) (by omega)
 unfold validP
 simp only
 have hcp:(0≤caps∧caps≤9)∨(0≤caps∧¬ caps≤9)∨¬ 0≤caps:=by omega
 generalize topI runes=top at *
 rcases hcp with ⟨hc1,hc2⟩|⟨hc1,hc2⟩|hc1
 ·obtain⟨ok,g',s',hcall,hok,himp⟩:=h103 (.row 10 [.agg (reC re++[I caps,.bool runes])] 1) (.row 1 [I top] 1) true
  rw[show ((1:Nat):Int)=1 from rfl,show ((0:Nat):Int)=0 from rfl]at hcall
  cases ok with
  | false=>
    have hcf:=of_decide_eq_false hok.symm
    rw[if_pos (by omega)]
    simp +contextual (disch:=omega) only[Tryz.f53,dd53,go_sem,simprocAttr,mu53,↓zAD,↓zAC,↓zAB,↓zAA,hl8,hget8,hget9,hz,hz2,h102,hall,htk8,hcall,List.all_append,lookD,look]
    exact fzEq rfl rfl
  | true=>
    have hct:=of_decide_eq_true hok.symm
    obtain⟨_,hg'⟩:=himp rfl
    rw[if_neg (by omega)]
    cases hwg:wholeG caps top re with
    | true=>
      rw[if_neg (by simp;omega)]
      rw[hwg]at hg'
      simp only[Bool.and_true]at hg'
      subst hg'
      simp +contextual (disch:=omega) only[Tryz.f53,dd53,go_sem,simprocAttr,mu53,↓zAD,↓zAC,↓zAB,↓zAA,hl8,hget8,hget9,hz,hz2,h102,hall,htk8,hcall,List.all_append,lookD,look]
      exact fzEq rfl rfl
    | false=>
      rw[if_pos (by simp)]
      rw[hwg]at hg'
      simp only[Bool.and_false]at hg'
      subst hg'
      simp +contextual (disch:=omega) only[Tryz.f53,dd53,go_sem,simprocAttr,mu53,↓zAD,↓zAC,↓zAB,↓zAA,hl8,hget8,hget9,hz,hz2,h102,hall,htk8,hcall,List.all_append,lookD,look]
      exact fzEq rfl rfl
 ·obtain⟨ok,g',s',hcall,hok,himp⟩:=h103 (.row 10 [.agg (reC re++[I caps,.bool runes])] 1) (.row 1 [I top] 1) false
  rw[show ((1:Nat):Int)=1 from rfl,show ((0:Nat):Int)=0 from rfl]at hcall
  cases ok with
  | false=>
    have hcf:=of_decide_eq_false hok.symm
    rw[if_pos (by omega)]
    simp +contextual (disch:=omega) only[Tryz.f53,dd53,go_sem,simprocAttr,mu53,↓zAD,↓zAC,↓zAB,↓zAA,hl8,hget8,hget9,hz,hz2,h102,hall,htk8,hcall,List.all_append,lookD,look]
    exact fzEq rfl rfl
  | true=>
    have hct:=of_decide_eq_true hok.symm
    obtain⟨_,hg'⟩:=himp rfl
    rw[if_neg (by omega)]
    rw[if_pos (by omega)]
    simp only[Bool.false_and]at hg'
    subst hg'
    simp +contextual (disch:=omega) only[Tryz.f53,dd53,go_sem,simprocAttr,mu53,↓zAD,↓zAC,↓zAB,↓zAA,hl8,hget8,hget9,hz,hz2,h102,hall,htk8,hcall,List.all_append,lookD,look]
    exact fzEq rfl rfl
 ·obtain⟨ok,g',s',hcall,hok,himp⟩:=h103 (.row 10 [.agg (reC re++[I caps,.bool runes])] 1) (.row 1 [I top] 1) false
  rw[show ((1:Nat):Int)=1 from rfl,show ((0:Nat):Int)=0 from rfl]at hcall
  cases ok with
  | false=>
    have hcf:=of_decide_eq_false hok.symm
    rw[if_pos (by omega)]
    simp +contextual (disch:=omega) only[Tryz.f53,dd53,go_sem,simprocAttr,mu53,↓zAD,↓zAC,↓zAB,↓zAA,hl8,hget8,hget9,hz,hz2,h102,hall,htk8,hcall,List.all_append,lookD,look]
    exact fzEq rfl rfl
  | true=>
    have hct:=of_decide_eq_true hok.symm
    obtain⟨_,hg'⟩:=himp rfl
    rw[if_neg (by omega)]
    rw[if_pos (by omega)]
    simp only[Bool.false_and]at hg'
    subst hg'
    simp +contextual (disch:=omega) only[Tryz.f53,dd53,go_sem,simprocAttr,mu53,↓zAD,↓zAC,↓zAB,↓zAA,hl8,hget8,hget9,hz,hz2,h102,hall,htk8,hcall,List.all_append,lookD,look]
    exact fzEq rfl rfl
end
end Go.Ev
