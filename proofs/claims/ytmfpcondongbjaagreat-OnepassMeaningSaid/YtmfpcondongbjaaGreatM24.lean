/- What functions of the program compute; no further conditions. -/
import Derived.Test.YtmfpcondongbjaaGreatM23
set_option linter.unusedVariables false
set_option linter.unusedSimpArgs false
open List (all_append append_assoc drop_zero getElem?_append_right getElem?_eq_getElem length_cons length_nil map_append map_cons map_nil map_replicate map_set map_take mem_map set_append_right take_of_length_le)
open Bool (and_eq_true false_eq_true)
open Int (le_refl)
open Go.Proofs Go.RowKit Go.IntWalk
set_option maxHeartbeats 8000000
set_option maxRecDepth 100000
namespace Go.Ev
attribute [local go_sem] BM evBin evBuild evMakeSlice AV.ok splice Ae Al bndO bnd evEq eqCells not_false_eq_true not_true_eq_false AX Array.size_empty List.length_append tySzE List.head?_drop Nat.mul_one AQ AU AO AR AS AY
section
attribute [local go_sem] evAppend map_append
def Run138 (caps top:Int) (t:List Int) (fuel:Int) (R:RunT):Prop:=
 ∀(A K:List MB) (g:Goal) (i:Int) (c:Caps) (s:SS) (b:Bool) (s':SS),GG caps top t.length s.steps g->0<=i->i<=t.length->c.length<=1000->SPre fuel s->R g i c s=some (b,s') ->
  call Pg pol1 118 [.rf A.length 1 0 0,goalA g,I i,capA c] (srH A t fuel s s.ends.length K)=some (.bool b,srH A t fuel s' s'.ends.length K)
theorem Fz {P:Program}{pol:Pol}{f:Nat}{args l:List AV}{H H1:List MB} (hp:pol.pure f=false) (he:pol.ext f=none) (h:frzArgs pol f 0 args H=some (l,H1)) (h2:frzArgs pol f 0 l H1=some (l,H1)) (hy:f≠yldF:=by decide) :
  call P pol f args H=call P pol f l H1:=by
 rw[BO,BO];unfold evStep;simp only[hp,false_eq_true,if_false,if_neg hy];unfold evBody;simp only[he,h,h2]
theorem J5 (A K:List MB) (t:List Int) (fuel:Int) (s:SS) (e:Nat) (cells:List AV) (i:Int) (c:Caps) (hp:AV.plainL cells=true) :
  call Pg pol1 118 [.rf A.length 1 0 0,.rf (A.length+(K.length+1+1+1)) 1 0 0,I i,capA c] (srH A t fuel s e (K++[.row 12 [.agg cells] 0])) =
   call Pg pol1 118 [.rf A.length 1 0 0,.pt cells,I i,capA c] (srH A t fuel s e (K++[.row 12 [.agg cells] 1])):=by
 refine Fz rfl rfl ?_ (AL _ _ _ (by simp[mixOk,show pol1.byref 118 0=true from rfl,AV.plain,hp,AG]));have h0:pol1.byref 118 0=true:=rfl;have h1:pol1.byref 118 1=false:=rfl;have h2:pol1.byref 118 2=false:=rfl;have h3:pol1.byref 118 3=false:=rfl;have hget:∀ v,(srH A t fuel s e (K++[v]))[A.length+(K.length+1+1+1)]?=some v:=fun v=>by
  rw[getElem?_append_right (by omega)];simp
 have hset:∀ u v,(srH A t fuel s e (K++[u])).set (A.length+(K.length+1+1+1)) v=srH A t fuel s e (K++[v]):=fun u v=>by
  rw[set_append_right _ _ (by omega)];simp
 have hz:=HV (id:=A.length+(K.length+1+1+1)) (tot:=1) (i:=0) (j:=0) (k:=12) (z:=0) (H:=srH A t fuel s e (K++[.row 12 [.agg cells] 0])) (els:=[.agg cells]) (x:=.agg cells) (by unfold getRow;rw[hget]) rfl rfl hp;have hm:mark (srH A t fuel s e (K++[.row 12 [.agg cells] 0])) (A.length+(K.length+1+1+1)) (0+1)=srH A t fuel s e (K++[.row 12 [.agg cells] 1]):=by
  unfold mark getRow;simp only[hget,hset];rfl
 rw[hm]at hz;have hc:∀ H,fz (capA c) H=some (capA c,H):=fun H=>Au H (by simp[AV.plain,AG]);have hi:∀ H,fz (I i) H=some (I i,H):=fun H=>rfl;simp only[frzArgs,h0,h1,h2,h3,false_eq_true,if_false,if_true,hz,hc,hi];rfl
theorem BQ {A K L:List MB}{t:List Int}{fuel:Int}{s:SS}{e:Nat}:srH A t fuel s e K++L=srH A t fuel s e (K++L):=by simp
theorem BN {A K L:List MB}{t:List Int}{fuel:Int}{s:SS}{e:Nat}{v:MB}:(srH A t fuel s e (K++v::L))[A.length+(K.length+1+1+1)]?=some v:=by
 rw[getElem?_append_right (by omega)];simp
theorem BR {A K L:List MB}{t:List Int}{fuel:Int}{s:SS}{e:Nat}{u v:MB}:(srH A t fuel s e (K++u::L)).set (A.length+(K.length+1+1+1)) v=srH A t fuel s e (K++v::L):=by
 rw[set_append_right _ _ (by omega)];simp
theorem Aw {A K L:List MB}{t:List Int}{fuel:Int}{s:SS}{e:Nat}{u v:MB}:(srH A t fuel s e (K++u::v::L))[A.length+(K.length+1+1+1+1)]?=some v:=by
 rw[getElem?_append_right (by omega)];rw[show A.length+(K.length+1+1+1+1)-A.length=(K.length+1)+1+1+1 by omega];simp only[List.getElem?_cons_succ];rw[getElem?_append_right (by omega)];simp
theorem BC {A K L:List MB}{t:List Int}{fuel:Int}{s:SS}{e:Nat}{u v w:MB}:(srH A t fuel s e (K++u::v::L)).set (A.length+(K.length+1+1+1+1)) w=srH A t fuel s e (K++u::w::L):=by
 rw[set_append_right _ _ (by omega)];rw[show A.length+(K.length+1+1+1+1)-A.length=(K.length+1)+1+1+1 by omega];simp only[List.set_cons_succ];rw[set_append_right _ _ (by omega)];simp
theorem BI {A K L L':List MB}{t:List Int}{fuel:Int}{s:SS}{e:Nat}{u:MB}:sameAt (A.length+(K.length+1+1+1)) (srH A t fuel s e (K++u::L)) (srH A t fuel s e (K++u::L'))=true:=by
 unfold sameAt;rw[BN,BN];exact MB.beq_refl u
theorem Ov {H H1 H2:List MB}{a b:Nat}{pre ca:List AV} (hb:getRow H b=some (12,[.agg (pre++[.rf a 1 0 0])],0)) (hm:mark H b 1=H1) (ha:getRow H1 a=some (12,[.agg ca],0)) (hm2:mark H1 a 1=H2)
  (hp:AV.plainL pre=true) (hc:AV.plainL ca=true):fz (.rf b 1 0 0) H=some (.pt (pre++[.pt ca]),H2):=by
 have hin:fzA (fzJ 5) (.rf a 1 0 0) H1=some (.pt ca,H2):=by
  simp only[fzA,ha,length_cons,length_nil,Nat.zero_add,if_true,List.getElem?_cons_zero,AV.cells,drop_zero,hm2,fzJ,Be _ _ _ hc]
 have hl:fzL (fzJ 5) (pre++[.rf a 1 0 0]) H1=some (pre++[.pt ca],H2):=by
  rw[HW,Be _ _ _ hp];simp only[fzL,hin]
 simp only[fz,fzA,hb,length_cons,length_nil,Nat.zero_add,if_true,List.getElem?_cons_zero,AV.cells,drop_zero,hm];show (match fzL (fzJ 5) (pre++[AV.rf a 1 0 0]) H1 with|some (ys,H')=>some (AV.pt ys,H')|none=>none)=_;rw[hl]
theorem GZ {A K L:List MB}{t:List Int}{fuel:Int}{s:SS}{e:Nat}{u v w:MB}:(srH A t fuel s e (K++u::v::w::L))[A.length+(K.length+2+1+1+1)]?=some w:=by
 rw[getElem?_append_right (by omega)];rw[show A.length+(K.length+2+1+1+1)-A.length=(K.length+2)+1+1+1 by omega];simp only[List.getElem?_cons_succ];rw[getElem?_append_right (by omega)];simp
theorem MV {A K L:List MB}{t:List Int}{fuel:Int}{s:SS}{e:Nat}{u v w x:MB}:(srH A t fuel s e (K++u::v::w::L)).set (A.length+(K.length+2+1+1+1)) x=srH A t fuel s e (K++u::v::x::L):=by
 rw[set_append_right _ _ (by omega)];rw[show A.length+(K.length+2+1+1+1)-A.length=(K.length+2)+1+1+1 by omega];simp only[List.set_cons_succ];rw[set_append_right _ _ (by omega)];simp
theorem Pw {fuel:Int}{R:RunT}{op:Int}{set:List (Int×Int)}{kid:Re}{mn mx md n:Int}{neg:Bool}{k:Int}{next:Goal}{i:Int}{c:Caps}{s:SS} :
 repR fuel R (.mk op set [kid] mn mx md n neg) k next i c s =
  if(stepSz fuel s).empty=true then some (true,stepSz fuel s)
  else if k<mn then R (.mk 0 kid 0 0 (.mk 2 (.mk op set [kid] mn mx md n neg) k i next)) i c (stepSz fuel s)
  else if md=1 then orR (R next i c (stepSz fuel s)) fun s2=>if(decide (mx = -1)||decide (k<mx))=true then R (.mk 0 kid 0 0 (.mk 2 (.mk op set [kid] mn mx md n neg) k i next)) i c s2 else some (false,s2)
  else orR (if(decide (mx = -1)||decide (k<mx))=true then R (.mk 0 kid 0 0 (.mk 2 (.mk op set [kid] mn mx md n neg) k i next)) i c (stepSz fuel s) else some (false,stepSz fuel s)) fun s2=>R next i c s2:=rfl
theorem f152 {caps top:Int}{t:List Int}{fuel:Int} (ht:t.length<=65536) (hf:0<=fuel/\fuel<=1000000) {R:RunT} (hP:RunP caps top t fuel R) (hR:Run138 caps top t fuel R)
  (A K:List MB) (re:Re) (k fr i:Int) (next:Goal) (c:Caps) (s:SS) (b:Bool) (s':SS) (h:RGood caps top re) (ho:re.op=4) (hk:0<=k/\k<=s.steps) (hi:0<=i/\i<=t.length)
  (hn:GG caps top t.length s.steps next) (hc:c.length<=1000) (hs:SPre fuel s) (he:repR fuel R re k next i c s=some (b,s')) :
  call Pg pol1 143 [.rf A.length 1 0 0,.pt (goalC 1 re k fr next),I i,capA c] (srH A t fuel s s.ends.length K)=some (.bool b,srH A t fuel s' s'.ends.length K):=by
 have h161:=fun K=>f161 A K t fuel s s.ends.length ⟨hs.st.1,by have:=hs.st;omega⟩;have ret:=fun b s' e' L=>JV (f:=143) rfl rfl b A K L t fuel s s' s.ends.length e';obtain⟨kid,hkid,hgk⟩:=JX h ho;have hmd:=h.md;obtain⟨op,set,kids,mn,mx,md,n,neg⟩:=re;simp only[Re.kids,Re.op,Re.md]at hkid ho hmd;subst hkid;subst ho;have hrep:=(BG h.good.whole).2.2.1 rfl;rw[Pw]at he;have hp8:=CP next
 have hl8:=AM kid;have ht8:=AZ kid;have hok8:=Ay kid;have hG:goalC 1 (.mk 4 set [kid] mn mx md n neg) k fr next=[I 1,I 4,.sl false (set.map spanAV),.sl false [reAV kid],I mn,I mx,I md,I n,.bool neg,I k,I fr,goalA next]:=by
  rw[goalC,Bl];rfl
 have hgp:=CB 1 (.mk 4 set [kid] mn mx md n neg) k fr next
 rw[hG]at hgp |-;have fr':frzArgs pol1 143 0 [.rf A.length 1 0 0,.pt [I 1,I 4,.sl false (set.map spanAV),.sl false [reAV kid],I mn,I mx,I md,I n,.bool neg,I k,I fr,goalA next],I i,capA c] (srH A t fuel s s.ends.length K)=some ([.rf A.length 1 0 0,.pt [I 1,I 4,.sl false (set.map spanAV),.sl false [reAV kid],I mn,I mx,I md,I n,.bool neg,I k,I fr,goalA next],I i,capA c],srH A t fuel s s.ends.length K):=AL _ _ _ (by
  simp only[mixOk,show pol1.byref 143 0=true from rfl,AV.plain,hgp,AG,Bool.true_or,Bool.or_true,Bool.and_self,Bool.and_true];rfl)
 refine AP (pol:=pol1) Tryz.func143 rfl rfl rfl rfl fr' ?_;by_cases h1:(stepSz fuel s).empty=true
 ·rw[if_pos h1]at he;simp only[Option.some.injEq,Prod.mk.injEq]at he;obtain⟨rfl,rfl⟩:=he;have h161:=fun K=>(h161 K).trans (by rw[h1]);simp +contextual (disch:=omega) only[Tryz.f143,DM,go_sem,simprocAttr,AV.cells,DJ,↓AD,↓AC,↓AB,↓AA,h161,hmd,BQ,BN,BR];exact ret true (stepSz fuel s) _ _
 ·rw[if_neg h1]at he;have h1':(stepSz fuel s).empty=false:=by simpa using h1
  obtain⟨p1,p2⟩:=Ca hs h1';have h161:=fun K=>(h161 K).trans (by rw[h1']);have hst:(stepSz fuel s).steps=s.steps+1:=rfl;have hn1:=hn.mono (show s.steps<=(stepSz fuel s).steps by omega);have hon:=Fk (next:=next) (i:=i) (L:=t.length) (steps:=(stepSz fuel s).steps) h hgk rfl (k:=k) ⟨hk.1,by omega⟩ hi hn1;have hka:∀ L L':List MB,(K++L)++L' = K++(L++L'):=fun L L'=>append_assoc K L L'
  have hfz:∀(R0:MB) (ca:List AV),AV.plainL ca=true->fz (.rf (A.length+(K.length+2+1+1+1)) 1 0 0) (srH A t fuel (stepSz fuel s) s.ends.length (K++[R0,.row 12 [.agg ca] 0,.row 12 [.agg (I 0::(reC kid++[I 0,I 0]++[.rf (A.length+(K.length+1+1+1+1)) 1 0 0]))] 0])) =
    some (.pt (I 0::(reC kid++[I 0,I 0]++[.pt ca])),srH A t fuel (stepSz fuel s) s.ends.length (K++[R0,.row 12 [.agg ca] 1,.row 12 [.agg (I 0::(reC kid++[I 0,I 0]++[.rf (A.length+(K.length+1+1+1+1)) 1 0 0]))] 1])):=fun R0 ca hca=>by
   have hpre:AV.plainL (I 0::(reC kid++[I 0,I 0]))=true:=by simp[AV.plainL,AV.plain,Bm,Ad]
   refine Ov (H1:=srH A t fuel (stepSz fuel s) s.ends.length (K++[R0,.row 12 [.agg ca] 0,.row 12 [.agg (I 0::(reC kid++[I 0,I 0]++[.rf (A.length+(K.length+1+1+1+1)) 1 0 0]))] 1])) (pre:=I 0::(reC kid++[I 0,I 0])) (a:=A.length+(K.length+1+1+1+1)) ?_ ?_ ?_ ?_ hpre hca
   ·unfold getRow;rw[GZ];rfl
   ·unfold mark getRow;rw[GZ];simp only[MV];rfl
   ·unfold getRow;rw[Aw]
   ·unfold mark getRow;rw[Aw];simp only[BC];rfl
  have plain_c2:AV.plainL [I 2,I 4,.sl false (set.map spanAV),.sl false [reAV kid],I mn,I mx,I md,I n,.bool neg,I k,I i,goalA next]=true:=by
   have hq:=CB 2 (.mk 4 set [kid] mn mx md n neg) k i next
   rw[goalC,Bl]at hq;exact hq
  have hGo:goalA (.mk 0 kid 0 0 (.mk 2 (.mk 4 set [kid] mn mx md n neg) k i next))=.pt (I 0::(reC kid++[I 0,I 0]++[.pt [I 2,I 4,.sl false (set.map spanAV),.sl false [reAV kid],I mn,I mx,I md,I n,.bool neg,I k,I i,goalA next]])):=by
   simp only[goalA,Bl,append_assoc,List.cons_append,List.nil_append,map_cons,map_nil]
  have hO:∀(K':List MB) (s2:SS) (b:Bool) (s':SS),(stepSz fuel s).steps<=s2.steps->SPre fuel s2->R (.mk 0 kid 0 0 (.mk 2 (.mk 4 set [kid] mn mx md n neg) k i next)) i c s2=some (b,s') ->
    call Pg pol1 118 [.rf A.length 1 0 0,.pt (I 0::(reC kid++[I 0,I 0]++[.pt [I 2,I 4,.sl false (set.map spanAV),.sl false [reAV kid],I mn,I mx,I md,I n,.bool neg,I k,I i,goalA next]])),I i,capA c] (srH A t fuel s2 s2.ends.length K') =
     some (.bool b,srH A t fuel s' s'.ends.length K'):=fun K' s2 b s' h1 h2 e=>by
   have:=hR A K' _ i c s2 b s' (hon.mono h1) hi.1 hi.2 hc h2 e
   rwa [hGo]at this
  have hN:∀(K':List MB) (s2:SS) (b:Bool) (s':SS),(stepSz fuel s).steps<=s2.steps->SPre fuel s2->R next i c s2=some (b,s') ->
    call Pg pol1 118 [.rf A.length 1 0 0,goalA next,I i,capA c] (srH A t fuel s2 s2.ends.length K')=some (.bool b,srH A t fuel s' s'.ends.length K'):=fun K' s2 b s' h1 h2 e=>
   hR A K' _ i c s2 b s' (hn1.mono h1) hi.1 hi.2 hc h2 e
  have pO:=fun(b:Bool) (s':SS) e=>hP _ i c _ b s' hon hi.1 hi.2 hc p1 e;have pN:=fun(b:Bool) (s':SS) e=>hP _ i c _ b s' hn1 hi.1 hi.2 hc p1 e;have hmx:mx = -1∨(mx≠-1/\k<mx)∨(mx≠-1/\¬ k<mx):=by omega
  by_cases hkm:k<mn
  ·rw[if_pos hkm]at he;have c1:=fun K'=>hO K' _ b s' (le_refl _) p1 he;rw[show (stepSz fuel s).ends.length=s.ends.length from rfl]at c1;rcases hmx with hmx|hmx|hmx
   ·simp +contextual (disch:=omega) only[Tryz.f143,DM,go_sem,simprocAttr,DJ,↓AD,↓AC,↓AB,↓AA,h161,hmd,BQ,BN,BR,Bool.not_false,hl8,ht8,hok8,BT,BS,BF,Br,Bs,Bt,BD,BE,Aa,Bv,Bw,all_append,Aw,BC,BI,hka,hfz,plain_c2,c1];repeat' (first|apply And.intro|(unfold dOk;kernel_rfl)|exact Aa next|(show (_&&_)=true;kernel_rfl)|(show (_||_)=true;kernel_rfl)|intro _)
    all_goals exact ret _ _ _ _
   ·simp +contextual (disch:=omega) only[Tryz.f143,DM,go_sem,simprocAttr,DJ,↓AD,↓AC,↓AB,↓AA,h161,hmd,BQ,BN,BR,Bool.not_false,hl8,ht8,hok8,BT,BS,BF,Br,Bs,Bt,BD,BE,Aa,Bv,Bw,all_append,Aw,BC,BI,hka,hfz,plain_c2,c1];repeat' (first|apply And.intro|(unfold dOk;kernel_rfl)|exact Aa next|(show (_&&_)=true;kernel_rfl)|(show (_||_)=true;kernel_rfl)|intro _)
    all_goals exact ret _ _ _ _
   ·simp +contextual (disch:=omega) only[Tryz.f143,DM,go_sem,simprocAttr,DJ,↓AD,↓AC,↓AB,↓AA,h161,hmd,BQ,BN,BR,Bool.not_false,hl8,ht8,hok8,BT,BS,BF,Br,Bs,Bt,BD,BE,Aa,Bv,Bw,all_append,Aw,BC,BI,hka,hfz,plain_c2,c1];repeat' (first|apply And.intro|(unfold dOk;kernel_rfl)|exact Aa next|(show (_&&_)=true;kernel_rfl)|(show (_||_)=true;kernel_rfl)|intro _)
    all_goals exact ret _ _ _ _
  ·rw[if_neg hkm]at he;by_cases hlz:md=1
   ·subst hlz;rw[if_pos rfl]at he;unfold orR at he;split at he
    ·cases he
    ·rename_i s2 e2;simp only[Option.some.injEq,Prod.mk.injEq]at he;obtain⟨rfl,rfl⟩:=he;have c1:=fun K'=>hN K' _ true _ (le_refl _) p1 e2;rw[show (stepSz fuel s).ends.length=s.ends.length from rfl]at c1;rcases hmx with hmx|hmx|hmx
     ·simp +contextual (disch:=omega) only[Tryz.f143,DM,go_sem,simprocAttr,DJ,↓AD,↓AC,↓AB,↓AA,h161,hmd,BQ,BN,BR,Bool.not_false,hl8,ht8,hok8,BT,BS,BF,Br,Bs,Bt,BD,BE,Aa,Bv,Bw,all_append,Aw,BC,BI,hka,hfz,plain_c2,c1];repeat' (first|apply And.intro|(unfold dOk;kernel_rfl)|exact Aa next|(show (_&&_)=true;kernel_rfl)|(show (_||_)=true;kernel_rfl)|intro _)
      all_goals exact ret _ _ _ _
     ·simp +contextual (disch:=omega) only[Tryz.f143,DM,go_sem,simprocAttr,DJ,↓AD,↓AC,↓AB,↓AA,h161,hmd,BQ,BN,BR,Bool.not_false,hl8,ht8,hok8,BT,BS,BF,Br,Bs,Bt,BD,BE,Aa,Bv,Bw,all_append,Aw,BC,BI,hka,hfz,plain_c2,c1];repeat' (first|apply And.intro|(unfold dOk;kernel_rfl)|exact Aa next|(show (_&&_)=true;kernel_rfl)|(show (_||_)=true;kernel_rfl)|intro _)
      all_goals exact ret _ _ _ _
     ·simp +contextual (disch:=omega) only[Tryz.f143,DM,go_sem,simprocAttr,DJ,↓AD,↓AC,↓AB,↓AA,h161,hmd,BQ,BN,BR,Bool.not_false,hl8,ht8,hok8,BT,BS,BF,Br,Bs,Bt,BD,BE,Aa,Bv,Bw,all_append,Aw,BC,BI,hka,hfz,plain_c2,c1];repeat' (first|apply And.intro|(unfold dOk;kernel_rfl)|exact Aa next|(show (_&&_)=true;kernel_rfl)|(show (_||_)=true;kernel_rfl)|intro _)
      all_goals exact ret _ _ _ _
    ·rename_i s2 e2;simp only at he;have c1:=fun K'=>hN K' _ false s2 (le_refl _) p1 e2;rw[show (stepSz fuel s).ends.length=s.ends.length from rfl]at c1;have q2:=pN _ _ e2;have p3:=q2.pre p1 p2;rcases hmx with hmx|hmx|hmx
     ·rw[if_pos (by simp[hmx])]at he;have c2:=fun K'=>hO K' _ b s' q2.st p3 he;simp +contextual (disch:=omega) only[Tryz.f143,DM,go_sem,simprocAttr,DJ,↓AD,↓AC,↓AB,↓AA,h161,hmd,BQ,BN,BR,Bool.not_false,hl8,ht8,hok8,BT,BS,BF,Br,Bs,Bt,BD,BE,Aa,Bv,Bw,all_append,Aw,BC,BI,hka,hfz,plain_c2,c1,c2];repeat' (first|apply And.intro|(unfold dOk;kernel_rfl)|exact Aa next|(show (_&&_)=true;kernel_rfl)|(show (_||_)=true;kernel_rfl)|intro _)
      all_goals exact ret _ _ _ _
     ·rw[if_pos (by simp[hmx])]at he;have c2:=fun K'=>hO K' _ b s' q2.st p3 he;simp +contextual (disch:=omega) only[Tryz.f143,DM,go_sem,simprocAttr,DJ,↓AD,↓AC,↓AB,↓AA,h161,hmd,BQ,BN,BR,Bool.not_false,hl8,ht8,hok8,BT,BS,BF,Br,Bs,Bt,BD,BE,Aa,Bv,Bw,all_append,Aw,BC,BI,hka,hfz,plain_c2,c1,c2];repeat' (first|apply And.intro|(unfold dOk;kernel_rfl)|exact Aa next|(show (_&&_)=true;kernel_rfl)|(show (_||_)=true;kernel_rfl)|intro _)
      all_goals exact ret _ _ _ _
     ·rw[if_neg (by simp[hmx])]at he;simp only[Option.some.injEq,Prod.mk.injEq]at he;obtain⟨rfl,rfl⟩:=he;simp +contextual (disch:=omega) only[Tryz.f143,DM,go_sem,simprocAttr,DJ,↓AD,↓AC,↓AB,↓AA,h161,hmd,BQ,BN,BR,Bool.not_false,hl8,ht8,hok8,BT,BS,BF,Br,Bs,Bt,BD,BE,Aa,Bv,Bw,all_append,Aw,BC,BI,hka,hfz,plain_c2,c1];repeat' (first|apply And.intro|(unfold dOk;kernel_rfl)|exact Aa next|(show (_&&_)=true;kernel_rfl)|(show (_||_)=true;kernel_rfl)|intro _)
      all_goals exact ret _ _ _ _
   ·rw[if_neg hlz]at he;unfold orR at he;rcases hmx with hmx|hmx|hmx
    ·rw[if_pos (by simp[hmx])]at he;split at he
     ·cases he
     ·rename_i s2 e2;simp only[Option.some.injEq,Prod.mk.injEq]at he;obtain⟨rfl,rfl⟩:=he;have c1:=fun K'=>hO K' _ true _ (le_refl _) p1 e2;rw[show (stepSz fuel s).ends.length=s.ends.length from rfl]at c1;simp +contextual (disch:=omega) only[Tryz.f143,DM,go_sem,simprocAttr,DJ,↓AD,↓AC,↓AB,↓AA,h161,hmd,BQ,BN,BR,Bool.not_false,hl8,ht8,hok8,BT,BS,BF,Br,Bs,Bt,BD,BE,Aa,Bv,Bw,all_append,Aw,BC,BI,hka,hfz,plain_c2,c1];repeat' (first|apply And.intro|(unfold dOk;kernel_rfl)|exact Aa next|(show (_&&_)=true;kernel_rfl)|(show (_||_)=true;kernel_rfl)|intro _)
      all_goals exact ret _ _ _ _
     ·rename_i s2 e2;have c1:=fun K'=>hO K' _ false s2 (le_refl _) p1 e2;rw[show (stepSz fuel s).ends.length=s.ends.length from rfl]at c1;have q2:=pO _ _ e2;have p3:=q2.pre p1 p2;have c2:=fun K'=>hN K' _ b s' q2.st p3 he;simp +contextual (disch:=omega) only[Tryz.f143,DM,go_sem,simprocAttr,DJ,↓AD,↓AC,↓AB,↓AA,h161,hmd,BQ,BN,BR,Bool.not_false,hl8,ht8,hok8,BT,BS,BF,Br,Bs,Bt,BD,BE,Aa,Bv,Bw,all_append,Aw,BC,BI,hka,hfz,plain_c2,c1,c2];repeat' (first|apply And.intro|(unfold dOk;kernel_rfl)|exact Aa next|(show (_&&_)=true;kernel_rfl)|(show (_||_)=true;kernel_rfl)|intro _)
      all_goals exact ret _ _ _ _
    ·rw[if_pos (by simp[hmx])]at he;split at he
     ·cases he
     ·rename_i s2 e2;simp only[Option.some.injEq,Prod.mk.injEq]at he;obtain⟨rfl,rfl⟩:=he;have c1:=fun K'=>hO K' _ true _ (le_refl _) p1 e2;rw[show (stepSz fuel s).ends.length=s.ends.length from rfl]at c1;simp +contextual (disch:=omega) only[Tryz.f143,DM,go_sem,simprocAttr,DJ,↓AD,↓AC,↓AB,↓AA,h161,hmd,BQ,BN,BR,Bool.not_false,hl8,ht8,hok8,BT,BS,BF,Br,Bs,Bt,BD,BE,Aa,Bv,Bw,all_append,Aw,BC,BI,hka,hfz,plain_c2,c1];repeat' (first|apply And.intro|(unfold dOk;kernel_rfl)|exact Aa next|(show (_&&_)=true;kernel_rfl)|(show (_||_)=true;kernel_rfl)|intro _)
      all_goals exact ret _ _ _ _
     ·rename_i s2 e2;have c1:=fun K'=>hO K' _ false s2 (le_refl _) p1 e2;rw[show (stepSz fuel s).ends.length=s.ends.length from rfl]at c1;have q2:=pO _ _ e2;have p3:=q2.pre p1 p2;have c2:=fun K'=>hN K' _ b s' q2.st p3 he;simp +contextual (disch:=omega) only[Tryz.f143,DM,go_sem,simprocAttr,DJ,↓AD,↓AC,↓AB,↓AA,h161,hmd,BQ,BN,BR,Bool.not_false,hl8,ht8,hok8,BT,BS,BF,Br,Bs,Bt,BD,BE,Aa,Bv,Bw,all_append,Aw,BC,BI,hka,hfz,plain_c2,c1,c2];repeat' (first|apply And.intro|(unfold dOk;kernel_rfl)|exact Aa next|(show (_&&_)=true;kernel_rfl)|(show (_||_)=true;kernel_rfl)|intro _)
      all_goals exact ret _ _ _ _
    ·rw[if_neg (by simp[hmx])]at he;simp only at he;have c1:=fun K'=>hN K' _ b s' (le_refl _) p1 he;rw[show (stepSz fuel s).ends.length=s.ends.length from rfl]at c1;simp +contextual (disch:=omega) only[Tryz.f143,DM,go_sem,simprocAttr,DJ,↓AD,↓AC,↓AB,↓AA,h161,hmd,BQ,BN,BR,Bool.not_false,hl8,ht8,hok8,BT,BS,BF,Br,Bs,Bt,BD,BE,Aa,Bv,Bw,all_append,Aw,BC,BI,hka,hfz,plain_c2,c1];repeat' (first|apply And.intro|(unfold dOk;kernel_rfl)|exact Aa next|(show (_&&_)=true;kernel_rfl)|(show (_||_)=true;kernel_rfl)|intro _)
     all_goals exact ret _ _ _ _
end
section
attribute [local go_sem] evAppend map_append
theorem PO {f:Nat} (hpu:pol1.pure f=false) (hex:pol1.ext f=none) (h0:pol1.byref f 0=true) (h1:pol1.byref f 1=false) (h2:pol1.byref f 2=false) (h3:pol1.byref f 3=false) (hy:f≠yldF)
  (A K:List MB) (X:MB) (t:List Int) (fuel:Int) (s:SS) (e:Nat) (cells:List AV) (i:Int) (c:Caps) (hp:AV.plainL cells=true) :
  call Pg pol1 f [.rf A.length 1 0 0,.rf (A.length+(K.length+1+1+1+1)) 1 0 0,I i,capA c] (srH A t fuel s e (K++[X,.row 12 [.agg cells] 0])) =
   call Pg pol1 f [.rf A.length 1 0 0,.pt cells,I i,capA c] (srH A t fuel s e (K++[X,.row 12 [.agg cells] 1])):=by
 refine Fz hpu hex ?_ (AL _ _ _ (by simp[mixOk,h0,AV.plain,hp,AG])) hy;have hz:=HV (id:=A.length+(K.length+1+1+1+1)) (tot:=1) (i:=0) (j:=0) (k:=12) (z:=0) (H:=srH A t fuel s e (K++[X,.row 12 [.agg cells] 0])) (els:=[.agg cells]) (x:=.agg cells) (by unfold getRow;rw[Aw]) rfl rfl hp;have hm:mark (srH A t fuel s e (K++[X,.row 12 [.agg cells] 0])) (A.length+(K.length+1+1+1+1)) (0+1)=srH A t fuel s e (K++[X,.row 12 [.agg cells] 1]):=by
  unfold mark getRow;rw[Aw];simp only[BC];rfl
 rw[hm]at hz;have hc:∀ H,fz (capA c) H=some (capA c,H):=fun H=>Au H (by simp[AV.plain,AG]);have hi:∀ H,fz (I i) H=some (I i,H):=fun H=>rfl;simp only[frzArgs,h0,h1,h2,h3,false_eq_true,if_false,if_true,hz,hc,hi];rfl
theorem Pk {caps top:Int}{set:List (Int×Int)}{kids:List Re}{mn mx md n:Int}{neg:Bool} (h:wholeG caps top (.mk 1 set kids mn mx md n neg)=true):set.length<=64:=by
 rw[wholeG,and_eq_true]at h;have h1:=h.1;simp only[formedG,and_eq_true]at h1;have h2:=h1.1.1.1.2;rw[if_pos trivial]at h2;simp only[spansG,and_eq_true,decide_eq_true_eq]at h2;exact h2.1
theorem PQ {caps top:Int}{set:List (Int×Int)}{kids:List Re}{mn mx md n:Int}{neg:Bool} (h:wholeG caps top (.mk 11 set kids mn mx md n neg)=true):0<=n/\n<=5:=by
 rw[wholeG,and_eq_true]at h;have h1:=h.1;simp only[formedG,and_eq_true]at h1;have h2:=h1.1.2;rw[if_neg (by omega),if_pos trivial,and_eq_true,decide_eq_true_eq,decide_eq_true_eq]at h2;exact h2
theorem QL (A K:List MB) (X:MB) (L:List MB) (t:List Int) (fuel:Int) (s:SS) (e:Nat) (cells:List AV) (hp:AV.plainL cells=true) :
  fz (.rf (A.length+(K.length+(L.length+1)+1+1+1)) 1 0 0) (srH A t fuel s e (K++X::(L++[.row 12 [.agg cells] 0])))=some (.pt cells,srH A t fuel s e (K++X::(L++[.row 12 [.agg cells] 1]))):=by
 have hM:∀ v:MB,K++X::(L++[v])=(K++X::L)++v::[]:=fun v=>by simp
 have hl:K.length+(L.length+1)=(K++X::L).length:=by simp
 rw[hM,hM,hl];have hz:=HV (id:=A.length+((K++X::L).length+1+1+1)) (tot:=1) (i:=0) (j:=0) (k:=12) (z:=0) (H:=srH A t fuel s e ((K++X::L)++.row 12 [.agg cells] 0::[])) (els:=[.agg cells]) (x:=.agg cells) (by unfold getRow;rw[BN]) rfl rfl hp;have hm:mark (srH A t fuel s e ((K++X::L)++.row 12 [.agg cells] 0::[])) (A.length+((K++X::L).length+1+1+1)) (0+1)=srH A t fuel s e ((K++X::L)++.row 12 [.agg cells] 1::[]):=by
  unfold mark getRow;rw[BN];simp only[BR];rfl
 rw[hm]at hz;exact hz
theorem PP (A K:List MB) (X:MB) (t:List Int) (fuel:Int) (s:SS) (e:Nat) (kid:Re) (ca:List AV) (i:Int) (c:Caps) (hca:AV.plainL ca=true) :
  call Pg pol1 118 [.rf A.length 1 0 0,.rf (A.length+(K.length+2+1+1+1)) 1 0 0,I i,capA c] (srH A t fuel s e (K++[X,.row 12 [.agg ca] 0,.row 12 [.agg (I 0::(reC kid++[I 0,I 0]++[.rf (A.length+(K.length+1+1+1+1)) 1 0 0]))] 0])) =
   call Pg pol1 118 [.rf A.length 1 0 0,.pt (I 0::(reC kid++[I 0,I 0]++[.pt ca])),I i,capA c] (srH A t fuel s e (K++[X,.row 12 [.agg ca] 1,.row 12 [.agg (I 0::(reC kid++[I 0,I 0]++[.rf (A.length+(K.length+1+1+1+1)) 1 0 0]))] 1])):=by
 have hpre:AV.plainL (I 0::(reC kid++[I 0,I 0]))=true:=by simp[AV.plainL,AV.plain,Bm,Ad]
 have hall:AV.plainL (I 0::(reC kid++[I 0,I 0]++[.pt ca]))=true:=by simp[AV.plainL,AV.plain,Bm,Ad,hca]
 have hz:=Ov (H:=srH A t fuel s e (K++[X,.row 12 [.agg ca] 0,.row 12 [.agg (I 0::(reC kid++[I 0,I 0]++[.rf (A.length+(K.length+1+1+1+1)) 1 0 0]))] 0])) (H1:=srH A t fuel s e (K++[X,.row 12 [.agg ca] 0,.row 12 [.agg (I 0::(reC kid++[I 0,I 0]++[.rf (A.length+(K.length+1+1+1+1)) 1 0 0]))] 1]))
  (H2:=srH A t fuel s e (K++[X,.row 12 [.agg ca] 1,.row 12 [.agg (I 0::(reC kid++[I 0,I 0]++[.rf (A.length+(K.length+1+1+1+1)) 1 0 0]))] 1])) (pre:=I 0::(reC kid++[I 0,I 0])) (a:=A.length+(K.length+1+1+1+1)) (b:=A.length+(K.length+2+1+1+1)) (ca:=ca)
  (by unfold getRow;rw[GZ];rfl) (by unfold mark getRow;rw[GZ];simp only[MV];rfl) (by unfold getRow;rw[Aw]) (by unfold mark getRow;rw[Aw];simp only[BC];rfl) hpre hca
 have h0:pol1.byref 118 0=true:=rfl;have h1:pol1.byref 118 1=false:=rfl;have h2:pol1.byref 118 2=false:=rfl;have h3:pol1.byref 118 3=false:=rfl;refine Fz rfl rfl ?_ (AL _ _ _ (by simp[mixOk,h0,AV.plain,AV.plainL,Bm,Ad,hca,AG]));have hc:∀ H,fz (capA c) H=some (capA c,H):=fun H=>Au H (by simp[AV.plain,AG]);have hi:∀ H,fz (I i) H=some (I i,H):=fun H=>rfl;simp only[frzArgs,h0,h1,h2,h3,false_eq_true,if_false,if_true,hz,hc,hi];rfl
theorem Oa {t:List Int}{fuel:Int}{R:RunT}{op:Int}{set:List (Int×Int)}{kids:List Re}{mn mx md n:Int}{neg:Bool}{next:Goal}{i:Int}{c:Caps}{s:SS} :
 nodeR t fuel R (.mk op set kids mn mx md n neg) next i c s =
  if op=4 then repR fuel R (.mk op set kids mn mx md n neg) 0 next i c s
  else if(stepSz fuel s).empty=true then some (true,stepSz fuel s)
  else if op=1 then
   (match t[i.toNat]? with
   | some x=>if hasSpan set x=true then R next (i+1) c (stepSz fuel s) else some (false,stepSz fuel s)
   | none=>some (false,stepSz fuel s))
  else if op=2 then R (catG next kids) i c (stepSz fuel s)
  else if op=3 then altR R next i c kids (stepSz fuel s)
  else if op=5 then
   (match kids with
   | []=>none
   | kid::_=>R (.mk 0 kid 0 0 (.mk 3 (.mk op set kids mn mx md n neg) 0 i next)) i c (stepSz fuel s))
  else if op=11 then(if assertI n (befS t i.toNat) t[i.toNat]?=true then R next i c (stepSz fuel s) else some (false,stepSz fuel s))
  else R next i c (stepSz fuel s):=rfl
theorem f154 {caps top:Int}{t:List Int}{fuel:Int} (ht:t.length<=65536) (hf:0<=fuel/\fuel<=1000000) {R:RunT} (hP:RunP caps top t fuel R) (hR:Run138 caps top t fuel R)
  (A K:List MB) (kind:Int) (re:Re) (k fr:Int) (i:Nat) (next:Goal) (c:Caps) (s:SS) (b:Bool) (s':SS) (h:RGood caps top re) (hi:i<=t.length)
  (hn:GG caps top t.length s.steps next) (hc:c.length<=1000) (hs:SPre fuel s) (he:nodeR t fuel R re next i c s=some (b,s')) :
  call Pg pol1 145 [.rf A.length 1 0 0,.pt (goalC kind re k fr next),I i,capA c] (srH A t fuel s s.ends.length K)=some (.bool b,srH A t fuel s' s'.ends.length K):=by
 have h161:=fun K=>f161 A K t fuel s s.ends.length ⟨hs.st.1,by have:=hs.st;omega⟩;have ret:=fun b s' e' L=>JV (f:=145) rfl rfl b A K L t fuel s s' s.ends.length e';have hp8:=CP next
 have hka:∀ L L':List MB,(K++L)++L' = K++(L++L'):=fun L L'=>append_assoc K L L';obtain⟨op,set,kids,mn,mx,md,n,neg⟩:=re;have hgp:=CB kind (.mk op set kids mn mx md n neg) k fr next
 have hgp1:=CB 1 (.mk op set kids mn mx md n neg) 0 0 next
 have hG:∀ kind k fr next,goalC kind (.mk op set kids mn mx md n neg) k fr next=[I kind,I op,.sl false (set.map spanAV),.sl false (kids.map reAV),I mn,I mx,I md,I n,.bool neg,I k,I fr,goalA next]:=fun kind k fr next=>by
  rw[goalC,Bl];rfl
 rw[hG]at hgp hgp1 |-;have fr':frzArgs pol1 145 0 [.rf A.length 1 0 0,.pt [I kind,I op,.sl false (set.map spanAV),.sl false (kids.map reAV),I mn,I mx,I md,I n,.bool neg,I k,I fr,goalA next],I i,capA c] (srH A t fuel s s.ends.length K)=some ([.rf A.length 1 0 0,.pt [I kind,I op,.sl false (set.map spanAV),.sl false (kids.map reAV),I mn,I mx,I md,I n,.bool neg,I k,I fr,goalA next],I i,capA c],srH A t fuel s s.ends.length K):=AL _ _ _ (by
  simp only[mixOk,show pol1.byref 145 0=true from rfl,AV.plain,hgp,AG,Bool.true_or,Bool.or_true,Bool.and_self,Bool.and_true];rfl)
 refine AP (pol:=pol1) Tryz.func145 rfl rfl rfl rfl fr' ?_;have hop:=h.good.op;have hkl:=h.len;simp only[Re.kids]at hkl;have hst:(stepSz fuel s).steps=s.steps+1:=rfl;have hn1:=hn.mono (show s.steps<=(stepSz fuel s).steps by omega);by_cases h4:op=4
 ·subst h4;have he:repR fuel R (.mk 4 set kids mn mx md n neg) 0 next i c s=some (b,s'):=he
  have c1:=fun K'=>f152 ht hf hP hR A K' (.mk 4 set kids mn mx md n neg) 0 0 i next c s b s' h rfl ⟨le_refl _,hs.st.1⟩ ⟨by omega,by omega⟩ hn hc hs he
  rw[hG]at c1;have c2:=fun X=>(PO (f:=143) rfl rfl rfl rfl rfl rfl (by decide) A K X t fuel s s.ends.length _ i c hgp1).trans (c1 _);simp +contextual (disch:=omega) only[Tryz.f145,C1,go_sem,simprocAttr,C0,↓AD,↓AC,↓AB,↓AA,c2,BQ,BN,BR,Bool.not_false,BT,BS,BF,Br,Bs,Bt,BD,BE,Aa,all_append,Aw,BC,BI,hka];repeat' (first|apply And.intro|(unfold dOk;kernel_rfl)|exact Aa next|(show (_&&_)=true;kernel_rfl)|(show (_||_)=true;kernel_rfl)|intro _)
  all_goals exact ret _ _ _ _
 ·rw[Oa,if_neg h4]at he;by_cases h1:(stepSz fuel s).empty=true
  ·rw[if_pos h1]at he;simp only[Option.some.injEq,Prod.mk.injEq]at he;obtain⟨rfl,rfl⟩:=he;have h161:=fun K=>(h161 K).trans (by rw[h1]);simp +contextual (disch:=omega) only[Tryz.f145,C1,go_sem,simprocAttr,C0,↓AD,↓AC,↓AB,↓AA,h161,h4,BQ,BN,BR,Bool.not_false,BT,BS,BF,Br,Bs,Bt,BD,BE,Aa,all_append,Aw,BC,BI,hka,Bx];repeat' (first|apply And.intro|(unfold dOk;kernel_rfl)|exact Aa next|(show (_&&_)=true;kernel_rfl)|(show (_||_)=true;kernel_rfl)|intro _)
   all_goals exact ret _ _ _ _
  rw[if_neg h1,Int.toNat_natCast]at he;have h1':(stepSz fuel s).empty=false:=by simpa using h1
  obtain⟨p1,p2⟩:=Ca hs h1';have h161:=fun K=>(h161 K).trans (by rw[h1'])
  have hN:∀(K':List MB) (j:Nat) (b:Bool) (s':SS),j<=t.length->R next j c (stepSz fuel s)=some (b,s') ->
    call Pg pol1 118 [.rf A.length 1 0 0,goalA next,I j,capA c] (srH A t fuel (stepSz fuel s) s.ends.length K')=some (.bool b,srH A t fuel s' s'.ends.length K'):=fun K' j b s' h1 e=>
   hR A K' _ j c _ b s' hn1 (by omega) (by omega) hc p1 e
  rcases hop with rfl|rfl|rfl|rfl|rfl|rfl|rfl
  ·-- nothing
   rw[if_neg (by omega),if_neg (by omega),if_neg (by omega),if_neg (by omega),if_neg (by omega)]at he;have c1:=fun K'=>hN K' i b s' hi he;simp +contextual (disch:=omega) only[Tryz.f145,C1,go_sem,simprocAttr,C0,↓AD,↓AC,↓AB,↓AA,h161,c1,BQ,BN,BR,Bool.not_false,BT,BS,BF,Br,Bs,Bt,BD,BE,Aa,all_append,Aw,BC,BI,hka,Bx];repeat' (first|apply And.intro|(unfold dOk;kernel_rfl)|exact Aa next|(show (_&&_)=true;kernel_rfl)|(show (_||_)=true;kernel_rfl)|intro _)
   all_goals exact ret _ _ _ _
  ·-- a set
   rw[if_pos rfl]at he;have hsl:set.length<=1000000:=by
    have h64:set.length<=64:=Pk h.good.whole;omega
   by_cases hlt:i<t.length
   ·obtain⟨x,hx⟩:∃ x,t[i]?=some x:=⟨_,getElem?_eq_getElem hlt⟩;rw[hx]at he;simp only at he;have h162:=f162 set x hsl;cases hh:hasSpan set x with
    | true=>
      rw[hh,if_pos rfl,show (i:Int)+1=((i+1:Nat):Int) by omega]at he;rw[hh]at h162;have c1:=fun K'=>hN K' (i+1) b s' (by omega) he;simp +contextual (disch:=omega) only[Tryz.f145,C1,go_sem,simprocAttr,C0,↓AD,↓AC,↓AB,↓AA,h161,h162,hx,c1,BQ,BN,BR,Bool.not_false,BT,BS,BF,Br,Bs,Bt,BD,BE,Aa,all_append,Aw,BC,BI,hka,Bx];repeat' (first|apply And.intro|(unfold dOk;kernel_rfl)|exact Aa next|(show (_&&_)=true;kernel_rfl)|(show (_||_)=true;kernel_rfl)|intro _)
      all_goals exact ret _ _ _ _
    | false=>
      rw[hh,if_neg Bool.false_ne_true]at he;rw[hh]at h162;simp only[Option.some.injEq,Prod.mk.injEq]at he;obtain⟨rfl,rfl⟩:=he;simp +contextual (disch:=omega) only[Tryz.f145,C1,go_sem,simprocAttr,C0,↓AD,↓AC,↓AB,↓AA,h161,h162,hx,BQ,BN,BR,Bool.not_false,BT,BS,BF,Br,Bs,Bt,BD,BE,Aa,all_append,Aw,BC,BI,hka,Bx];repeat' (first|apply And.intro|(unfold dOk;kernel_rfl)|exact Aa next|(show (_&&_)=true;kernel_rfl)|(show (_||_)=true;kernel_rfl)|intro _)
      all_goals exact ret _ _ _ _
   ·rw[List.getElem?_eq_none (by omega)]at he;simp only[Option.some.injEq,Prod.mk.injEq]at he;obtain⟨rfl,rfl⟩:=he;simp +contextual (disch:=omega) only[Tryz.f145,C1,go_sem,simprocAttr,C0,↓AD,↓AC,↓AB,↓AA,h161,BQ,BN,BR,Bool.not_false,BT,BS,BF,Br,Bs,Bt,BD,BE,Aa,all_append,Aw,BC,BI,hka,Bx];repeat' (first|apply And.intro|(unfold dOk;kernel_rfl)|exact Aa next|(show (_&&_)=true;kernel_rfl)|(show (_||_)=true;kernel_rfl)|intro _)
    all_goals exact ret _ _ _ _
  ·-- one after the other
   rw[if_neg (by omega),if_pos rfl]at he;have c1:=fun K'=>hR A K' (catG next kids) i c _ b s' (GG.cat (by omega) hn1 h.kids) (by omega) (by omega) hc p1 he;rw[show (stepSz fuel s).ends.length=s.ends.length from rfl]at c1;obtain⟨X,hX⟩:∃ X:MB,X=.row 8 [.agg [I 2,.sl false (set.map spanAV),.sl false (kids.map reAV),I mn,I mx,I md,I n,.bool neg]] 0:=⟨_,rfl⟩;simp +contextual (disch:=omega) only[Tryz.f145,C1,go_sem,simprocAttr,C0,↓AD,↓AC,↓AB,↓AA,h161,BQ,BN,BR,Bool.not_false,BT,BS,BF,Br,Bs,Bt,BD,BE,Aa,all_append,Aw,BC,BI,hka,Bx]
   refine Cw (σ:=Nat×List MB) (M:=⟨some [11,10,9,3,2,0],none,[]⟩) rfl (fun x=>(⟨341,[(11,I ((x.1:Int)-1)),(10,goalA (catG next (kids.drop x.1))),(9,.rf (A.length+(K.length+1+1+1)) 1 0 0),(3,capA c),(2,I i),(0,.rf A.length 1 0 0)],
    srH A t fuel (stepSz fuel s) s.ends.length (K++.row 8 [.agg [I 2,.sl false (set.map spanAV),.sl false (kids.map reAV),I mn,I mx,I md,I n,.bool neg]] 0::x.2)⟩:St)) (fun x=>x.1<=kids.length) (fun x=>x.1) (kids.length,[]) ?_ (Nat.le_refl _) _ ?_
   ·rintro⟨j,L⟩ hj;simp only at hj |-;rcases j with _|m
    ·have hz0:((0:Nat):Int)-1 = -1:=rfl;rw[hz0,drop_zero];simp +contextual (disch:=omega) only[Tryz.f145,C1,go_sem,simprocAttr,C0,↓AD,↓AC,↓AB,↓AA,h161,c1,BQ,BN,BR,Bool.not_false,BT,BS,BF,Br,Bs,Bt,BD,BE,Aa,all_append,Aw,BC,BI,hka,Bx];exact ret b s' _ _
    ·obtain⟨kid,hkid⟩:∃ k,kids[m]?=some k:=⟨_,getElem?_eq_getElem (by omega)⟩;have hl8:=AM kid;have ht8:=AZ kid;have hok8:=Ay kid;have hm1:((m+1:Nat):Int)-1=(m:Int):=by omega
     rw[hm1];have hcp:AV.plainL (I 0::(reC kid++[I 0,I 0]++[goalA (catG next (kids.drop (m+1)))]))=true:=by
      simp[AV.plainL,AV.plain,Bm,Ad,CP]
     have hfz:=fun X=>QL A K X L t fuel (stepSz fuel s) s.ends.length _ hcp;simp +contextual (disch:=omega) only[Tryz.f145,C1,go_sem,simprocAttr,C0,↓AD,↓AC,↓AB,↓AA,h161,hkid,hl8,ht8,hok8,Bv,Bw,hfz,BQ,BN,BR,Bool.not_false,BT,BS,BF,Br,Bs,Bt,BD,BE,Aa,all_append,Aw,BC,BI,hka,Bx];refine⟨Aa _,Aa _,(m,L++[.row 12 [.agg (I 0::(reC kid++[I 0,I 0]++[goalA (catG next (kids.drop (m+1)))]))] 1]),by show m<=_;omega,Nat.lt_succ_self _,?_⟩;have hgm:goalA (catG next (kids.drop m))=.pt (I 0::(reC kid++[I 0,I 0]++[goalA (catG next (kids.drop (m+1)))])):=by
      rw[List.drop_eq_getElem_cons (by omega),(List.getElem?_eq_some_iff.1 hkid).2];simp[catG,goalA]
     simp only[hgm];rfl
   ·simp only[List.drop_length,catG];rfl
  ·-- one of some
   rw[if_neg (by omega),if_neg (by omega),if_pos rfl]at he;simp +contextual (disch:=omega) only[Tryz.f145,C1,go_sem,simprocAttr,C0,↓AD,↓AC,↓AB,↓AA,h161,BQ,BN,BR,Bool.not_false,BT,BS,BF,Br,Bs,Bt,BD,BE,Aa,all_append,Aw,BC,BI,hka,Bx]
   refine Cw (σ:=Nat×List MB×SS) (M:=⟨some [12,9,3,2,1,0],none,[]⟩) rfl (fun x=>(⟨341,[(12,I (x.1:Nat)),(9,.rf (A.length+(K.length+1+1+1)) 1 0 0),(3,capA c),(2,I i),(1,.pt [I kind,I 3,.sl false (set.map spanAV),.sl false (kids.map reAV),I mn,I mx,I md,I n,.bool neg,I k,I fr,goalA next]),(0,.rf A.length 1 0 0)],
    srH A t fuel x.2.2 x.2.2.ends.length (K++.row 8 [.agg [I 3,.sl false (set.map spanAV),.sl false (kids.map reAV),I mn,I mx,I md,I n,.bool neg]] 0::x.2.1)⟩:St))
    (fun x=>x.1<=kids.length/\altR R next i c (kids.drop x.1) x.2.2=some (b,s')/\SPre fuel x.2.2/\(stepSz fuel s).steps<=x.2.2.steps/\(x.2.2.ends.length:Int)+((kids.length-x.1:Nat):Int)<=256*x.2.2.steps) (fun x=>kids.length-x.1) (0,[],stepSz fuel s) ?_
    ⟨Nat.zero_le _,he,p1,le_refl _,by simp only;omega⟩ _ ?_
   ·rintro⟨j,L,s1⟩ ⟨hj,he,q1,q2,q3⟩;simp only at hj he q1 q2 q3 |-;by_cases hjl:j<kids.length
    ·obtain⟨kid,hkid⟩:∃ k,kids[j]?=some k:=⟨_,getElem?_eq_getElem hjl⟩;have hl8:=AM kid;have ht8:=AZ kid;have hok8:=Ay kid;have hcp:AV.plainL (I 0::(reC kid++[I 0,I 0]++[goalA next]))=true:=by
      simp[AV.plainL,AV.plain,Bm,Ad,CP]
     have hgm:goalA (.mk 0 kid 0 0 next)=.pt (I 0::(reC kid++[I 0,I 0]++[goalA next])):=by
      simp[goalA]
     have hgk:=h.kids kid (List.mem_of_getElem? hkid);rw[List.drop_eq_getElem_cons hjl,(List.getElem?_eq_some_iff.1 hkid).2,altR]at he;have hgg:GG caps top t.length s1.steps (.mk 0 kid 0 0 next):=⟨hgk,.inl rfl,⟨le_refl _,by omega⟩,hn1.mono q2⟩;have hbox:=fun(X:MB) b' s2 e2=>(J5 A (K++X::L) t fuel s1 s1.ends.length _ i c hcp).trans ((hgm ▸ hR A ((K++X::L)++[MB.row 12 [.agg (I 0::(reC kid++[I 0,I 0]++[goalA next]))] 1]) (.mk 0 kid 0 0 next) i c s1 b' s2 hgg (by omega) (by omega) hc q1 e2));have hka2:∀(X Y:MB),(K++X::L)++[Y]=K++X::(L++[Y]):=fun X Y=>by simp
     simp only[hka2,List.length_append,length_cons]at hbox;unfold orR at he;split at he
     ·cases he
     ·rename_i s2 e2;simp only[Option.some.injEq,Prod.mk.injEq]at he;obtain⟨rfl,rfl⟩:=he;have c1:=fun X=>hbox X _ _ e2;simp +contextual (disch:=omega) only[Tryz.f145,C1,go_sem,simprocAttr,C0,↓AD,↓AC,↓AB,↓AA,h161,hkid,hl8,ht8,hok8,Bv,Bw,c1,BQ,BN,BR,Bool.not_false,BT,BS,BF,Br,Bs,Bt,BD,BE,Aa,all_append,Aw,BC,BI,hka,Bx];repeat' (first|apply And.intro|(unfold dOk;kernel_rfl)|exact Aa next|(show (_&&_)=true;kernel_rfl)|(show (_||_)=true;kernel_rfl)|intro _)
      all_goals exact ret _ _ _ _
     ·rename_i s2 e2;have c1:=fun X=>hbox X _ _ e2;have q:=hP _ _ _ _ _ _ hgg (by omega) (by omega) hc q1 e2;simp +contextual (disch:=omega) only[Tryz.f145,C1,go_sem,simprocAttr,C0,↓AD,↓AC,↓AB,↓AA,h161,hkid,hl8,ht8,hok8,Bv,Bw,c1,BQ,BN,BR,Bool.not_false,BT,BS,BF,Br,Bs,Bt,BD,BE,Aa,all_append,Aw,BC,BI,hka,Bx];repeat' (first|apply And.intro|(unfold dOk;kernel_rfl)|exact Aa next|(show (_&&_)=true;kernel_rfl)|(show (_||_)=true;kernel_rfl)|intro _)
      have qa:=q.el;have qb:=q.st;have qc:=q.fu rfl;have qd:=q1.st;have rp:SPre fuel s2:=⟨q.eb.symm,⟨by omega,qc⟩,q.cl,by omega⟩;have r1:(stepSz fuel s).steps<=s2.steps:=by omega
      have r2:(s2.ends.length:Int)+((kids.length-(j+1):Nat):Int)<=256*s2.steps:=by omega
      refine⟨(j+1,L++[MB.row 12 [.agg (I 0::(reC kid++[I 0,I 0]++[goalA next]))] 1],s2),⟨hjl,he,rp,r1,r2⟩,by show kids.length-(j+1)<_;omega,?_⟩;rfl
    ·obtain rfl:j=kids.length:=by omega
     rw[List.drop_length,altR]at he;simp only[Option.some.injEq,Prod.mk.injEq]at he;obtain⟨rfl,rfl⟩:=he;simp +contextual (disch:=omega) only[Tryz.f145,C1,go_sem,simprocAttr,C0,↓AD,↓AC,↓AB,↓AA,h161,BQ,BN,BR,Bool.not_false,BT,BS,BF,Br,Bs,Bt,BD,BE,Aa,all_append,Aw,BC,BI,hka,Bx];exact ret false _ _ _
   ·rfl
  ·exact absurd rfl h4
  ·-- a capture
   rw[if_neg (by omega),if_neg (by omega),if_neg (by omega),if_pos rfl]at he;obtain⟨kid,hkid,hgk⟩:=J4 h rfl;simp only[Re.kids]at hkid;subst hkid;simp only at he;have hl8:=AM kid;have ht8:=AZ kid;have hok8:=Ay kid;have hca:=CB 3 (.mk 5 set [kid] mn mx md n neg) 0 i next
   rw[hG]at hca;have hgm:goalA (.mk 0 kid 0 0 (.mk 3 (.mk 5 set [kid] mn mx md n neg) 0 i next))=.pt (I 0::(reC kid++[I 0,I 0]++[.pt [I 3,I 5,.sl false (set.map spanAV),.sl false ([kid].map reAV),I mn,I mx,I md,I n,.bool neg,I 0,I i,goalA next]])):=by
    simp[goalA,Bl]
   have hgg:GG caps top t.length (stepSz fuel s).steps (.mk 0 kid 0 0 (.mk 3 (.mk 5 set [kid] mn mx md n neg) 0 i next)):=⟨hgk,.inl rfl,⟨le_refl _,by omega⟩,h,.inr (.inr (.inr ⟨rfl,rfl⟩)),⟨by omega,by omega⟩,hn1⟩;have c1:=fun X=>(PP A K X t fuel (stepSz fuel s) s.ends.length kid _ i c hca).trans (hgm ▸ hR A _ _ i c _ b s' hgg (by omega) (by omega) hc p1 he);simp only[map_cons,map_nil]at c1;simp +contextual (disch:=omega) only[Tryz.f145,C1,go_sem,simprocAttr,C0,↓AD,↓AC,↓AB,↓AA,h161,c1,hl8,ht8,hok8,Bv,Bw,BQ,BN,BR,Bool.not_false,BT,BS,BF,Br,Bs,Bt,BD,BE,Aa,all_append,Aw,BC,BI,hka,Bx];repeat' (first|apply And.intro|(unfold dOk;kernel_rfl)|exact Aa next|(show (_&&_)=true;kernel_rfl)|(show (_||_)=true;kernel_rfl)|intro _)
   all_goals exact ret _ _ _ _
  ·-- an assertion
   rw[if_neg (by omega),if_neg (by omega),if_neg (by omega),if_neg (by omega),if_pos rfl]at he;have hnn:=PQ h.good.whole;have h165:=f165 n t i hnn hi (by omega);cases hh:assertI n (befS t i) t[i]? with
   | true=>
     rw[hh,if_pos rfl]at he;rw[hh]at h165;have c1:=fun K'=>hN K' i b s' hi he;simp +contextual (disch:=omega) only[Tryz.f145,C1,go_sem,simprocAttr,C0,↓AD,↓AC,↓AB,↓AA,h161,h165,c1,BQ,BN,BR,Bool.not_false,BT,BS,BF,Br,Bs,Bt,BD,BE,Aa,all_append,Aw,BC,BI,hka,Bx];repeat' (first|apply And.intro|(unfold dOk;kernel_rfl)|exact Aa next|(show (_&&_)=true;kernel_rfl)|(show (_||_)=true;kernel_rfl)|intro _)
     all_goals exact ret _ _ _ _
   | false=>
     rw[hh,if_neg Bool.false_ne_true]at he;rw[hh]at h165;simp only[Option.some.injEq,Prod.mk.injEq]at he;obtain⟨rfl,rfl⟩:=he;simp +contextual (disch:=omega) only[Tryz.f145,C1,go_sem,simprocAttr,C0,↓AD,↓AC,↓AB,↓AA,h161,h165,BQ,BN,BR,Bool.not_false,BT,BS,BF,Br,Bs,Bt,BD,BE,Aa,all_append,Aw,BC,BI,hka,Bx];repeat' (first|apply And.intro|(unfold dOk;kernel_rfl)|exact Aa next|(show (_&&_)=true;kernel_rfl)|(show (_||_)=true;kernel_rfl)|intro _)
     all_goals exact ret _ _ _ _
end
section
theorem PR {H:List MB}{i n z:Nat}{l:List Int}{x:Int}{t:Bool} (hi:getRow H i=some (1,l.map I,z)) (hn:l.length=n) (hz:z<=n) (hr:n+1<=4000000000) :
  evAppend Pg H 22 22 (.ms i 1 n 0 n) (.sl t [I x])=some (.ms i 1 (n+1) 0 (n+1),H.set i (.row 1 ((l++[x]).map I) z)):=by
 have hs:srcElems Pg H 3 (.sl t [I x])=some [I x]:=rfl;rw[Bp (e:=3) (by kernel_rfl) (by kernel_rfl) (k:=1) (by kernel_rfl) (by_:=8) (by kernel_rfl) (ze:=I 0) (by kernel_rfl) rfl (by omega) hs rfl hi (by rw[List.length_map];exact hn) hz (AY (by simpa using hr) (by omega))];rw[map_append];rfl
theorem Nn {H:List MB}{i n z:Nat}{l:List Caps}{x:Caps}{t:Bool} (hi:getRow H i=some (1,l.map capA,z)) (hn:l.length=n) (hz:z<=n) (hr:n+1<=4000000000) :
  evAppend Pg H 203 203 (.ms i 1 n 0 n) (.sl t [capA x])=some (.ms i 1 (n+1) 0 (n+1),H.set i (.row 1 ((l++[x]).map capA) z)):=by
 have hs:srcElems Pg H 50 (.sl t [capA x])=some [capA x]:=rfl;rw[Bp (e:=50) (by kernel_rfl) (by kernel_rfl) (k:=1) (by kernel_rfl) (by_:=24) (by kernel_rfl) (ze:=.sl true []) (by kernel_rfl) rfl (by omega) hs rfl hi (by rw[List.length_map];exact hn) hz (AY (by simpa using hr) (by omega))];rw[map_append];rfl
theorem f138 {caps top:Int}{t:List Int}{fuel:Int} (ht:t.length<=65536) (hf:0<=fuel/\fuel<=1000000) (d:Nat) (hR:Run138 caps top t fuel (runG t fuel d)):Run138 caps top t fuel (runG t fuel (d+1)):=by
 intro A K g i c s b s' hg hi0 hi1 hc hs he;have hP:=Ff caps top t fuel d;obtain⟨i,rfl⟩:∃ j:Nat,i=j:=⟨i.toNat,by omega⟩;have ret:=fun b s' e' L=>JV (f:=118) rfl rfl b A K L t fuel s s' s.ends.length e';have ret0:=fun b s' e'=>MY (f:=118) rfl rfl b A K t fuel s s' s.ends.length e';have hnp:ofK (.pointer none)=.nilp:=rfl;have hpg:=CP g;have fr':frzArgs pol1 118 0 [.rf A.length 1 0 0,goalA g,I i,capA c] (srH A t fuel s s.ends.length K)=some ([.rf A.length 1 0 0,goalA g,I i,capA c],srH A t fuel s s.ends.length K):=AL _ _ _ (by
  simp only[mixOk,show pol1.byref 118 0=true from rfl,hpg,AV.plain,AG,Bool.true_or,Bool.or_true,Bool.and_self,Bool.and_true];rfl)
 refine AP (pol:=pol1) Tryz.func118 rfl rfl rfl rfl fr' ?_;have hka:∀ L L':List MB,(K++L)++L' = K++(L++L'):=fun L L'=>append_assoc K L L';have hsl:=hs.el;have hst:=hs.st;cases g with
 | nil=>
   simp only[runG,Option.some.injEq,Prod.mk.injEq]at he;obtain⟨rfl,rfl⟩:=he;have a1:=PR (H:=srH A t fuel s s.ends.length K) (i:=A.length+1) (n:=s.ends.length) (z:=0) (l:=s.ends) (x:=(i:Int)) (t:=true) (by unfold getRow;rw[OT]) rfl (Nat.zero_le _) (by omega);rw[OR]at a1;have a2:=fun S E=>Nn (H:=A++S::E::.row 1 (s.caps.map capA) 0::K) (i:=A.length+2) (n:=s.ends.length) (z:=0) (l:=s.caps) (x:=c) (t:=true) (by unfold getRow;rw[OS]) hs.cl (Nat.zero_le _) (by omega);simp only[OQ]at a2;simp only[goalA];simp +contextual (disch:=omega) only[Tryz.f118,Hk,go_sem,simprocAttr,AV.cells,HG,↓AD,↓AC,↓AB,↓AA,hnp,evEq,Bx,Jc,a1,a2];exact⟨by unfold dOk;kernel_rfl,ret0 false ⟨s.steps,s.empty,s.ends++[(i:Int)],s.caps++[c]⟩ (s.ends.length+1)⟩
 | mk kind re k fr next=>
   obtain⟨g1,g2,g3,g4⟩:=hg;simp only[runG]at he;simp only[goalA];obtain⟨op,set,kids,mn,mx,md,n,neg⟩:=re;have hG:∀ kind k fr next,goalC kind (.mk op set kids mn mx md n neg) k fr next=[I kind,I op,.sl false (set.map spanAV),.sl false (kids.map reAV),I mn,I mx,I md,I n,.bool neg,I k,I fr,goalA next]:=fun kind k fr next=>by
    rw[goalC,Bl];rfl
   rw[show (I kind::(reC (.mk op set kids mn mx md n neg)++[I k,I fr,goalA next]))=_ from hG kind k fr next];rcases g2 with rfl|⟨rfl,g2⟩|⟨rfl,g2⟩|⟨rfl,g2⟩
   ·rw[if_neg (by omega),if_neg (by omega),if_neg (by omega)]at he;have c1:=f154 ht hf hP hR A K 0 _ k fr i next c s b s' g1 (by omega) g4 hc hs he
    rw[hG]at c1;simp +contextual (disch:=omega) only[Tryz.f118,Hk,go_sem,simprocAttr,evAppend,map_append,HG,↓AD,↓AC,↓AB,↓AA,hnp,evEq,c1];exact ret0 b s' _
   ·rw[if_pos rfl]at he;have c1:=f152 ht hf hP hR A K _ k fr i next c s b s' g1 g2.1 g2.2 ⟨by omega,hi1⟩ g4 hc hs he
    rw[hG]at c1;simp +contextual (disch:=omega) only[Tryz.f118,Hk,go_sem,simprocAttr,evAppend,map_append,HG,↓AD,↓AC,↓AB,↓AA,hnp,evEq,c1];exact ret0 b s' _
   ·rw[if_neg (by omega),if_pos rfl]at he;have he:(if mn<=k/\(i:Int)=fr then some (false,s) else runG t fuel d (.mk 1 (.mk op set kids mn mx md n neg) (k+1) 0 next) i c s)=some (b,s'):=he;by_cases hm:mn<=k
    ·by_cases hif:(i:Int)=fr
     ·rw[if_pos ⟨hm,hif⟩]at he;simp only[Option.some.injEq,Prod.mk.injEq]at he;obtain⟨rfl,rfl⟩:=he;simp +contextual (disch:=omega) only[Tryz.f118,Hk,go_sem,simprocAttr,evAppend,map_append,HG,↓AD,↓AC,↓AB,↓AA,hnp,evEq,hif,hm];exact⟨by unfold dOk;kernel_rfl,ret0 false _ _⟩
     ·rw[if_neg (by omega)]at he;have hgg:GG caps top t.length s.steps (.mk 1 (.mk op set kids mn mx md n neg) (k+1) 0 next):=⟨g1,.inr (.inl ⟨rfl,g2.1,by omega,by omega⟩),⟨le_refl _,by omega⟩,g4⟩;have hcp:=CB 1 (.mk op set kids mn mx md n neg) (k+1) 0 next
      have c1:=(J5 A K t fuel s s.ends.length _ i c hcp).trans (hR A (K++[MB.row 12 [.agg (goalC 1 (.mk op set kids mn mx md n neg) (k+1) 0 next)] 1]) _ i c s b s' hgg (by omega) hi1 hc hs he);rw[hG]at c1;have hw:IntKind.i64.wrap (k+1)=k+1:=by rw[i64_in]<;>omega
      simp +contextual (disch:=omega) only[Tryz.f118,Hk,go_sem,simprocAttr,evAppend,map_append,HG,↓AD,↓AC,↓AB,↓AA,hnp,evEq,hif,hm,hw,c1,BQ,BT,BS,BF,Br,Bs,Bt,BD,BE,Aa,all_append];repeat' (first|apply And.intro|(unfold dOk;kernel_rfl)|exact Aa next|(show (_&&_)=true;kernel_rfl)|(show (_||_)=true;kernel_rfl)|intro _)
      exact ret b s' _ _
    ·rw[if_neg (by omega)]at he;have hgg:GG caps top t.length s.steps (.mk 1 (.mk op set kids mn mx md n neg) (k+1) 0 next):=⟨g1,.inr (.inl ⟨rfl,g2.1,by omega,by omega⟩),⟨le_refl _,by omega⟩,g4⟩;have hcp:=CB 1 (.mk op set kids mn mx md n neg) (k+1) 0 next
     have c1:=(J5 A K t fuel s s.ends.length _ i c hcp).trans (hR A (K++[MB.row 12 [.agg (goalC 1 (.mk op set kids mn mx md n neg) (k+1) 0 next)] 1]) _ i c s b s' hgg (by omega) hi1 hc hs he);rw[hG]at c1;have hw:IntKind.i64.wrap (k+1)=k+1:=by rw[i64_in]<;>omega
     simp +contextual (disch:=omega) only[Tryz.f118,Hk,go_sem,simprocAttr,evAppend,map_append,HG,↓AD,↓AC,↓AB,↓AA,hnp,evEq,hm,hw,c1,BQ,BT,BS,BF,Br,Bs,Bt,BD,BE,Aa,all_append];repeat' (first|apply And.intro|(unfold dOk;kernel_rfl)|exact Aa next|(show (_&&_)=true;kernel_rfl)|(show (_||_)=true;kernel_rfl)|intro _)
     exact ret b s' _ _
   ·rw[if_neg (by omega),if_neg (by omega),if_pos rfl]at he;have h153:=f153 c n fr i (by omega);have c1:=fun K'=>hR A K' next i _ s b s' g4 (by omega) hi1 (by rw[Gn];exact hc) hs he
    simp only[Re.n]at c1;simp +contextual (disch:=omega) only[Tryz.f118,Hk,go_sem,simprocAttr,evAppend,map_append,HG,↓AD,↓AC,↓AB,↓AA,hnp,evEq,h153,c1];exact⟨by unfold dOk;kernel_rfl,by show (_||_)=true;kernel_rfl,ret0 b s' _⟩
theorem OB {caps top:Int}{t:List Int}{fuel:Int} (ht:t.length<=65536) (hf:0<=fuel/\fuel<=1000000):∀ d,Run138 caps top t fuel (runG t fuel d)
 | 0=>fun A K g i c s b s' _ _ _ _ _ e=>by cases g<;>simp[runG]at e
 | d+1=>f138 ht hf d (OB ht hf d)
end
section
attribute [local go_sem] evAppend AV.cells map_append
theorem f137 (re:Re) (caps:Int) (t:List Int) (fuel:Int) (hw:re.wt<=1000000) (hv:validP ⟨re,caps,false⟩=0) (hl:t.length<=65536) (ht:∀ x∈t,0<=x/\x<=255) (hf:0<=fuel/\fuel<=1000000) (H:List MB) :
  call Pg pol1 117 [patAV ⟨re,caps,false⟩,.sl false (t.map I),I fuel] H=some (I 0,H):=by
 have h52:=f52 ⟨re,caps,false⟩ hw;rw[hv]at h52;have hpl:=Az ⟨re,caps,false⟩;refine AT Tryz.func117 rfl rfl rfl rfl rfl rfl (fun _=>rfl) (by simp[AV.plainL,AV.plain,AF];exact hpl) rfl ?_ H;have hl8:=AM re;have hget9:(reC re++[I caps,.bool false])[9]?=some (.bool false):=by rw[getElem?_append_right (by omega),hl8];rfl
 have htk:List.take 10 (reC re++[I caps,.bool false])=reC re++[I caps,.bool false]:=take_of_length_le (by simp[AM]);have hall:=Ay re;simp +contextual (disch:=omega) only[Tryz.f117,My,go_sem,simprocAttr,Mj,↓AD,↓AC,↓AB,↓AA,h52,hl8,hget9,htk,hall,all_append];repeat' (first|intro _|apply And.intro|(unfold dOk;kernel_rfl)|exact St.beq_refl _|(show altO _ _ _ _=true;kernel_rfl)|(show (_||_)=true;kernel_rfl)|(show (_&&_)=true;kernel_rfl))
 refine Af (M:=(mskOf (pol1.mask 117) (pol1.gc 117) (pol1.acts 117) 0 10)) rfl t.length (fun i=>(⟨45,[(9,I i),(8,I 255),(2,I fuel),(1,.sl false (t.map I))],[.row 10 [patAV ⟨re,caps,false⟩] 0]⟩:St)) (fun _=>True) ?_ ?_ trivial _ (by first|rfl|(refine A0 rfl (by rfl) (by rfl) (by rfl) ?_ ?_<;>simp[AV.underL,AV.under,MB.under,AE,AJ,AF,AG,AH,AI,-map_take]))
 ·intro i hi _;obtain⟨x,hx⟩:∃ x,t[i]?=some x:=⟨_,getElem?_eq_getElem hi⟩;have hb:=ht x (List.mem_of_getElem? hx);simp +contextual (disch:=omega) only[Tryz.f117,My,go_sem,simprocAttr,Mj,↓AD,↓AC,↓AB,↓AA,hx];repeat' (first|intro _|apply And.intro|(unfold dOk;kernel_rfl)|exact St.beq_refl _|(show altO _ _ _ _=true;kernel_rfl)|(show (_||_)=true;kernel_rfl)|(show (_&&_)=true;kernel_rfl))
  all_goals exact(by first|rfl|(simp[keepT,AV.underL,AV.under,MB.under,AE,AJ,AK,AF,AG,AH,AI,-map_take,-map_replicate,-map_set, *];done))
 ·intro _;simp +contextual (disch:=omega) only[Tryz.f117,My,go_sem,simprocAttr,Mj,↓AD,↓AC,↓AB,↓AA];repeat' (first|intro _|apply And.intro|(unfold dOk;kernel_rfl)|exact St.beq_refl _|(show altO _ _ _ _=true;kernel_rfl)|(show (_||_)=true;kernel_rfl)|(show (_&&_)=true;kernel_rfl))
  all_goals exact fzEq rfl rfl
abbrev bare (n:Nat):Caps:=List.replicate n (-1,-1)
theorem f139 (n:Nat) (hn:n<=1000) (H:List MB):call Pg pol1 119 [I n] H=some (capA (bare n),H):=by
 refine AT Tryz.func119 rfl rfl rfl rfl rfl rfl (fun _=>rfl) (by simp[AV.plain,AV.plainL]) (show AV.plain (.sl false _)=true from AG (bare n)) ?_ H;simp +contextual (disch:=omega) only[Tryz.f119,PJ,go_sem,simprocAttr,Oi,↓AD,↓AC,↓AB,↓AA];refine Af (M:=(mskOf (pol1.mask 119) (pol1.gc 119) (pol1.acts 119) 0 3)) rfl n (fun j=>(⟨15,[(4,I j),(3,.ms 0 2 j 0 j),(0,I n)],[.row 2 ((bare j).map spanAV) 0]⟩:St)) (fun _=>True) ?_ ?_ trivial _ (by first|rfl|(refine A0 rfl (by rfl) (by rfl) (by rfl) ?_ ?_<;>simp[AV.underL,AV.under,MB.under,AE,AJ,AF,AG,AH,AI,-map_take]))
 ·intro j hj _;have hl:(bare j).length=j:=by simp
  have hs:bare (j+1)=bare j++[(-1,-1)]:=List.replicate_succ';rw[hs];generalize bare j=cs at *;have htk:=Dl (f:=spanAV) hl;simp +contextual (disch:=omega) only[Tryz.f119,PJ,go_sem,simprocAttr,Oi,↓AD,↓AC,↓AB,↓AA,hl,htk];repeat' (first|intro _|apply And.intro|(unfold dOk;kernel_rfl)|exact St.beq_refl _|(show altO _ _ _ _=true;kernel_rfl)|(show (_||_)=true;kernel_rfl)|(show (_&&_)=true;kernel_rfl))
  all_goals exact(by first|rfl|(refine Ac (n:=1) (m:=⟨some [4,3,0],some 1,[]⟩) rfl rfl ?_ ?_ ?_<;>first|rfl|(simp[keepT,AV.underL,AV.under,MB.under,AE,AJ,AK,AF,AG,AH,AI,-map_take,-map_replicate,-map_set, *];done)|(simp[keepT,AV.underL,AV.under,MB.under,AE,AJ,AK,AF,AG,AH,AI,-map_take,-map_replicate,-map_set, *];omega)))
 ·intro _;have hl:(bare n).length=n:=by simp
  generalize bare n=cs at *;simp +contextual (disch:=omega) only[Tryz.f119,PJ,go_sem,simprocAttr,Oi,↓AD,↓AC,↓AB,↓AA,hl];simp only[fz];rw[Cl (els:=cs.map spanAV) (k:=2) (z:=0) rfl (by simp[hl]) (AG cs)];exact⟨_,rfl⟩
def symJ:List Int:=[97,97,97,98,98,99,97,98,10,32,65,200]
def textT (l:List Int) (n:Nat):List Int:=(List.range n).map fun(i:Nat)=>symJ.getD (pickI l i 12).toNat 0
theorem Lb (l:List Int) (n:Nat):textT l (n+1)=textT l n++[symJ.getD (pickI l n 12).toNat 0]:=by simp[textT,List.range_succ]
theorem Fe (l:List Int) (n:Nat):(textT l n).length=n:=by simp[textT]
theorem N2 (l:List Int) (n:Nat):∀ x∈textT l n,0<=x/\x<=255:=by
 intro x hx;obtain⟨i,_,rfl⟩:=mem_map.1 hx;have hp:=Gb (l:=l) (i:=i) (m:=12) (by omega);generalize (pickI l i 12)=k at hp;have:k=0∨k=1∨k=2∨k=3∨k=4∨k=5∨k=6∨k=7∨k=8∨k=9∨k=10∨k=11:=by omega
 rcases this with rfl|rfl|rfl|rfl|rfl|rfl|rfl|rfl|rfl|rfl|rfl|rfl<;>decide
theorem f122 (l:List Int) (hl:∀ x∈l,In64 x) (H:List MB):call Pg pol1 30 [.sl false (l.map I),I 12] H=some (.sl false ((textT l (min l.length 12)).map I),H):=by
 refine AT Tryz.func30 rfl rfl rfl rfl rfl rfl (fun _=>rfl) (by simp[AV.plain,AV.plainL,AF]) (by simp[AV.plain,AF]) ?_ H;simp +contextual (disch:=omega) only[Tryz.f30,dd30,go_sem,simprocAttr,mu30,↓AD,↓AC,↓AB,↓AA];refine Af (M:=(mskOf (pol1.mask 30) (pol1.gc 30) (pol1.acts 30) 0 3)) rfl (min l.length 12) (fun j=>(⟨28,[(6,I j),(5,.ms 0 1 j 0 j),(1,I 12),(0,.sl false (l.map I))],[.row 1 ((textT l j).map I) 0]⟩:St)) (fun _=>True) ?_ ?_ trivial _ (by first|rfl|(refine A0 rfl (by rfl) (by rfl) (by rfl) ?_ ?_<;>simp[AV.underL,AV.under,MB.under,AE,AJ,AF,AG,AH,AI,-map_take]))
 ·intro j hj _;have ht:=Fe l j;have h57:=f57 l j 12 hl (by omega);have hp:=Gb (l:=l) (i:=j) (m:=12) (by omega);rw[Lb];generalize textT l j=cs at *;have htk:=Dl (f:=I) ht;generalize pickI l j 12=k at *;obtain⟨v,hv⟩:∃ v,symJ[k.toNat]?=some v:=⟨_,getElem?_eq_getElem (by simp[symJ];omega)⟩;rw[List.getD_eq_getElem?_getD,hv,Option.getD_some];obtain⟨k,rfl⟩:∃ n:Nat,k=n:=⟨k.toNat,by omega⟩;have hv2:[I 97,I 97,I 97,I 98,I 98,I 99,I 97,I 98,I 10,I 32,I 65,I 200][k]?=some (I v):=by
   have:symJ.map I=[I 97,I 97,I 97,I 98,I 98,I 99,I 97,I 98,I 10,I 32,I 65,I 200]:=rfl;rw[<- this,List.getElem?_map]
   simpa using congrArg (Option.map I) hv
  have c1:j<l.length:=by omega
  have c2:j<12:=by omega
  simp +contextual (disch:=omega) only[Tryz.f30,dd30,go_sem,simprocAttr,mu30,↓AD,↓AC,↓AB,↓AA,ht,htk,h57,hv2];repeat' (first|intro _|apply And.intro|(unfold dOk;kernel_rfl)|exact St.beq_refl _|(show altO _ _ _ _=true;kernel_rfl)|(show (_||_)=true;kernel_rfl)|(show (_&&_)=true;kernel_rfl))
  all_goals exact(by first|rfl|(refine Ac (n:=1) (m:=⟨some [6,5,1,0],some 1,[]⟩) rfl rfl ?_ ?_ ?_<;>first|rfl|(simp[keepT,AV.underL,AV.under,MB.under,AE,AJ,AK,AF,AG,AH,AI,-map_take,-map_replicate,-map_set, *];done)|(simp[keepT,AV.underL,AV.under,MB.under,AE,AJ,AK,AF,AG,AH,AI,-map_take,-map_replicate,-map_set, *];omega)))
 ·intro _;have ht:=Fe l (min l.length 12);generalize textT l (min l.length 12)=cs at *;by_cases c:l.length<12
  ·rw[Nat.min_eq_left (by omega)]at *;simp +contextual (disch:=omega) only[Tryz.f30,dd30,go_sem,simprocAttr,mu30,↓AD,↓AC,↓AB,↓AA,ht];simp only[fz];rw[Cl (els:=cs.map I) (k:=1) (z:=0) rfl (by simp[ht]) (AF cs)];exact⟨_,rfl⟩
  ·rw[Nat.min_eq_right (by omega)]at *;by_cases c2:12=l.length
   ·simp +contextual (disch:=omega) only[Tryz.f30,dd30,go_sem,simprocAttr,mu30,↓AD,↓AC,↓AB,↓AA,ht];repeat' (first|intro _|apply And.intro|(unfold dOk;kernel_rfl)|exact St.beq_refl _|(show altO _ _ _ _=true;kernel_rfl)|(show (_||_)=true;kernel_rfl)|(show (_&&_)=true;kernel_rfl))
    all_goals simp only[fz]
    all_goals rw[Cl (els:=cs.map I) (k:=1) (z:=0) rfl (by simp[ht]) (AF cs)]
    all_goals exact⟨_,rfl⟩
   ·simp +contextual (disch:=omega) only[Tryz.f30,dd30,go_sem,simprocAttr,mu30,↓AD,↓AC,↓AB,↓AA,ht];repeat' (first|intro _|apply And.intro|(unfold dOk;kernel_rfl)|exact St.beq_refl _|(show altO _ _ _ _=true;kernel_rfl)|(show (_||_)=true;kernel_rfl)|(show (_&&_)=true;kernel_rfl))
    all_goals simp only[fz]
    all_goals rw[Cl (els:=cs.map I) (k:=1) (z:=0) rfl (by simp[ht]) (AF cs)]
    all_goals exact⟨_,rfl⟩
end
section
attribute [local go_sem] evAppend AV.cells map_append
def matsG (at_:Int) (es:List Int) (cs:List Caps) (n:Nat):List AV:=(List.range n).map fun i=>matAV at_ (es.getD i 0) (cs.getD i [])
theorem Lu (at_:Int) (es:List Int) (cs:List Caps) (n:Nat):matsG at_ es cs (n+1)=matsG at_ es cs n++[matAV at_ (es.getD n 0) (cs.getD n [])]:=by simp[matsG,List.range_succ]
theorem Iu (at_:Int) (es:List Int) (cs:List Caps) (n:Nat):(matsG at_ es cs n).length=n:=by simp[matsG]
theorem DQ (at_:Int) (es:List Int) (cs:List Caps) (n:Nat):AV.plainL (matsG at_ es cs n)=true:=by
 rw[Ep];intro x hx;obtain⟨i,_,rfl⟩:=mem_map.1 hx;exact C9 _ _ _
theorem Sm (re:Re) (caps:Int) (t:List Int) (fuel:Int) (hw:re.wt<=1000000) (hv:validP ⟨re,caps,false⟩≠0) (H:List MB) :
  call Pg pol1 117 [patAV ⟨re,caps,false⟩,.sl false (t.map I),I fuel] H=some (I (validP ⟨re,caps,false⟩),H):=by
 have h52:=f52 ⟨re,caps,false⟩ hw;generalize validP ⟨re,caps,false⟩=v at *;have hpl:=Az ⟨re,caps,false⟩;refine AT Tryz.func117 rfl rfl rfl rfl rfl rfl (fun _=>rfl) (by simp[AV.plainL,AV.plain,AF];exact hpl) rfl ?_ H;have hl8:=AM re;have hget9:(reC re++[I caps,.bool false])[9]?=some (.bool false):=by rw[getElem?_append_right (by omega),hl8];rfl
 have htk:List.take 10 (reC re++[I caps,.bool false])=reC re++[I caps,.bool false]:=take_of_length_le (by simp[AM]);have hall:=Ay re;simp +contextual (disch:=omega) only[Tryz.f117,My,go_sem,simprocAttr,Mj,↓AD,↓AC,↓AB,↓AA,h52,hl8,hget9,htk,hall,all_append];repeat' (first|intro _|apply And.intro|(unfold dOk;kernel_rfl)|exact St.beq_refl _|(show altO _ _ _ _=true;kernel_rfl)|(show (_||_)=true;kernel_rfl)|(show (_&&_)=true;kernel_rfl))
 all_goals exact⟨_,rfl⟩
theorem Sn (re:Re) (n:Nat) (t:List Int) (at_:Nat) (fuel:Int) (hw:re.wt<=1000000) (hv:validP ⟨re,n,false⟩≠0) (H:List MB) :
  call Pg pol1 95 [patAV ⟨re,n,false⟩,.sl false (t.map I),I at_,I (-1),I fuel] H=some (.tup [.sl false [],I 0,I (validP ⟨re,n,false⟩)],H):=by
 have h137:=Sm re n t fuel hw hv;generalize validP ⟨re,n,false⟩=v at *;have hpl:=Az ⟨re,n,false⟩;have hl8:=AM re;have htk:List.take 10 (reC re++[I n,.bool false])=reC re++[I n,.bool false]:=take_of_length_le (by simp[AM]);have hall:=Ay re;refine AT Tryz.func95 rfl rfl rfl rfl rfl rfl (fun _=>rfl) (by simp[AV.plainL,AV.plain,AF];exact hpl) rfl ?_ H;simp +contextual (disch:=omega) only[Tryz.f95,dd95,go_sem,simprocAttr,mu95,↓AD,↓AC,↓AB,↓AA,h137,hl8,htk,hall,all_append];repeat' (first|intro _|apply And.intro|(unfold dOk;kernel_rfl)|exact St.beq_refl _|(show altO _ _ _ _=true;kernel_rfl)|(show (_||_)=true;kernel_rfl)|(show (_&&_)=true;kernel_rfl))
 all_goals exact⟨_,rfl⟩
theorem f123 (re:Re) (n:Nat) (t:List Int) (at_:Nat) (fuel:Int) (hw:re.wt<=1000000) (hv:validP ⟨re,n,false⟩=0) (hn:n<=1000) (hl:t.length<=65536) (ht:∀ x∈t,0<=x/\x<=255) (hf:0<=fuel/\fuel<=1000000)
  (hr:RGood n 255 re) (hc:lpG re=true) (ha:at_<=t.length) :
  ∃(out:AV) (k e:Int),AV.plain out=true/\(e=0∨e=11)/\(e=0->(costR t re at_:Int)<=fuel)/\∀ H,call Pg pol1 95 [patAV ⟨re,n,false⟩,.sl false (t.map I),I at_,I (-1),I fuel] H=some (.tup [out,I k,I e],H):=by
 have h137:=f137 re n t fuel hw hv hl ht hf;have h139:=f139 n hn;have hs0:SPre fuel (⟨0,false,[],[]⟩:SS):=⟨rfl,⟨le_refl _,hf.1⟩,rfl,by simp⟩;have hg0:GG n 255 t.length (0:Int) (.mk 0 re 0 0 .nil):=⟨hr,.inl rfl,⟨le_refl _,by omega⟩,trivial⟩;obtain⟨d,b,s,hrun,hpost,hst⟩:=JZ n 255 t fuel re hr hc 0 0 .nil at_ (fun _=>0) ha (fun j hj=>RT.nil (CN t re at_ ha j hj).2) (bare n) ⟨0,false,[],[]⟩ hg0 (by simp;omega) hs0;have hsum:((outs t re at_).map fun _=>0).sum=0:=by
  induction outs t re at_ with
  | nil=>rfl
  | cons a l ih=>simp[ih]
 rw[hsum]at hst
 have h138:=(J5 [.row 10 [patAV ⟨re,n,false⟩] 0] [] t fuel ⟨0,false,[],[]⟩ 0 (goalC 0 re 0 0 .nil) at_ (bare n) (CB 0 re 0 0 .nil)).trans
  (OB hl hf d [.row 10 [patAV ⟨re,n,false⟩] 0] [MB.row 12 [.agg (goalC 0 re 0 0 .nil)] 1] (.mk 0 re 0 0 .nil) at_ (bare n) ⟨0,false,[],[]⟩ b s hg0 (by omega) (by omega) (by simp;omega) hs0 hrun)
 have hcl:=hpost.cl;have hel:=hpost.el;have hfu:=hpost.fu;have heb:=hpost.eb;obtain⟨steps,empty,ends,caps⟩:=s;simp only at hcl hel hfu heb hst;simp only[srH,goalC,goalA,sB,length_cons,length_nil,map_nil,List.cons_append,List.nil_append,Nat.reduceAdd,Nat.zero_add]at h138;have hpl:=Az ⟨re,n,false⟩;have hl8:=AM re;have hget8:(reC re++[I n,.bool false])[8]?=some (I n):=by rw[getElem?_append_right (by omega),hl8];rfl
 have htk:List.take 10 (reC re++[I n,.bool false])=reC re++[I n,.bool false]:=take_of_length_le (by simp[AM]);have htk8:∀ l,List.take 8 (reC re++l)=reC re:=fun l=>by
  rw[List.take_append_of_le_length (by omega)];exact take_of_length_le (by omega)
 have hall:=Ay re;subst heb;cases b with
 | true=>
   refine⟨.sl false [],0,11,rfl,.inr rfl,fun h=>by omega,?_⟩;refine fun H=>AT Tryz.func95 rfl rfl rfl rfl rfl rfl (fun _=>rfl) (by simp[AV.plainL,AV.plain,AF];exact hpl) rfl ?_ H;simp +contextual (disch:=omega) only[Tryz.f95,dd95,go_sem,simprocAttr,mu95,↓AD,↓AC,↓AB,↓AA,h137,h139,h138,hl8,hget8,htk,htk8,hall,all_append];repeat' (first|intro _|apply And.intro|(unfold dOk;kernel_rfl)|exact St.beq_refl _|(show altO _ _ _ _=true;kernel_rfl)|(show (_||_)=true;kernel_rfl)|(show (_&&_)=true;kernel_rfl))
   all_goals exact⟨_,rfl⟩
 | false=>
   refine⟨.sl false (matsG at_ ends caps ends.length),steps,0,DQ _ _ _ _,.inl rfl,fun _=>by have:=hst rfl;have:=hfu rfl;omega,?_⟩;refine fun H=>AT Tryz.func95 rfl rfl rfl rfl rfl rfl (fun _=>rfl) (by simp[AV.plainL,AV.plain,AF];exact hpl) (by simp[AV.plain,AV.plainL,DQ]) ?_ H;simp +contextual (disch:=omega) only[Tryz.f95,dd95,go_sem,simprocAttr,mu95,↓AD,↓AC,↓AB,↓AA,h137,h139,h138,hl8,hget8,htk,htk8,hall,all_append];repeat' (first|intro _|apply And.intro|(unfold dOk;kernel_rfl)|exact St.beq_refl _|(show altO _ _ _ _=true;kernel_rfl)|(show (_||_)=true;kernel_rfl)|(show (_&&_)=true;kernel_rfl))
   have u1:∀ m,AV.underL m (reC re)=true:=fun m=>AE _ _ (Ad re);have hE:ends.length<=300000000:=by have:=hfu rfl;simp only[length_nil]at hel;omega
   refine Af (M:=(mskOf (pol1.mask 95) (pol1.gc 95) (pol1.acts 95) 0 12)) rfl ends.length (fun j=>(⟨84,[(16,I j),(15,.ms 5 3 j 0 j),(14,.rf 1 1 0 0),(2,I at_)],[.row 10 [patAV ⟨re,n,false⟩] 0,
    .row 7 [.agg [.sl false (t.map I),I (-1),I fuel,I steps,.bool false,.ms 2 1 ends.length 0 ends.length,.ms 3 1 ends.length 0 ends.length]] 0,.row 1 (ends.map I) 0,.row 1 (caps.map capA) 0,
    .row 12 [.agg (goalC 0 re 0 0 .nil)] 1,.row 3 (matsG at_ ends caps j) 0]⟩:St)) (fun _=>True) ?_ ?_ trivial _ ?_
   ·intro j hj _;obtain⟨a,ha⟩:∃ a,ends[j]?=some a:=⟨_,getElem?_eq_getElem (by omega)⟩;obtain⟨c,hc⟩:∃ c,caps[j]?=some c:=⟨_,getElem?_eq_getElem (by omega)⟩;have hm:=Iu at_ ends caps j;have hpm:=DQ at_ ends caps j;rw[Lu,List.getD_eq_getElem?_getD,List.getD_eq_getElem?_getD,ha,hc];simp only[Option.getD_some];generalize matsG at_ ends caps j=ms at *;have htk:List.take j ms=ms:=take_of_length_le (by omega);simp +contextual (disch:=omega) only[Tryz.f95,dd95,go_sem,simprocAttr,mu95,↓AD,↓AC,↓AB,↓AA,ha,hc,hm,hcl,matAV,htk];repeat' (first|intro _|apply And.intro|(unfold dOk;kernel_rfl)|exact St.beq_refl _|(show altO _ _ _ _=true;kernel_rfl)|(show (_||_)=true;kernel_rfl)|(show (_&&_)=true;kernel_rfl))
    all_goals (refine Ac (n:=6) (m:=⟨some [16,15,14,2],some 6,[]⟩) rfl rfl ?_ ?_ ?_<;>simp[keepT,AV.underL,AV.under,MB.under,AE,AJ,AK,AF,AG,-map_take,u1,Eo,hpm,htk]<;>rfl)
   ·intro _;have hm:=Iu at_ ends caps ends.length;have hpm:=DQ at_ ends caps ends.length;generalize matsG at_ ends caps ends.length=ms at *;simp +contextual (disch:=omega) only[Tryz.f95,dd95,go_sem,simprocAttr,mu95,↓AD,↓AC,↓AB,↓AA,hm];repeat' (first|intro _|apply And.intro|(unfold dOk;kernel_rfl)|exact St.beq_refl _|(show altO _ _ _ _=true;kernel_rfl)|(show (_||_)=true;kernel_rfl)|(show (_&&_)=true;kernel_rfl))
    simp only[fz,EU,fzL,EW];rw[Cl (els:=ms) (k:=3) (z:=0) rfl hm hpm];exact⟨_,rfl⟩
   ·refine A0 rfl (by rfl) (by rfl) (by rfl) ?_ ?_<;>simp[AV.underL,AV.under,MB.under,AE,AJ,AF,AG,Eo,AK,u1,-map_take]
    all_goals exact⟨rfl,rfl⟩
end
end Go.Ev
