/- What functions of the program compute; no further conditions. -/
import Derived.Test.YtjgmfjneajcbmaaGreatF20
set_option linter.unusedVariables false
set_option linter.unusedSimpArgs false
open List (all_append append_assoc drop_zero getElem?_append_right length_cons map_append map_cons map_nil mem_append mem_flatMap mem_singleton set_append_right)
open Bool (and_eq_true false_eq_true)
open Int (le_refl)
open Go.Proofs Go.RowKit Go.IntWalk
set_option maxHeartbeats 8000000
set_option maxRecDepth 100000
namespace Go.Ev
attribute [local go_sem] evBin AV.ok frzB Av BG bndO bnd evEq eqCells not_false_eq_true not_true_eq_false Af Array.size_empty List.length_append tySzE List.head?_drop Nat.mul_one AR AY AP AS AT Ad
section
attribute [local go_sem] evAppend map_append
def Run138 (caps top:Int) (t:List Int) (fuel:Int) (R:RunT):Prop:=
 ∀(A K:List MB) (g:Goal) (i:Int) (c:Caps) (s:SS) (b:Bool) (s':SS),GG caps top t.length s.steps g->0<=i->i<=t.length->c.length<=1000->SPre fuel s->R g i c s=some (b,s') ->
  call Pg pol1 97 [.rf A.length 1 0 0,goalA g,I i,capA c] (srH A t fuel s s.ends.length K)=some (.bool b,srH A t fuel s' s'.ends.length K)
theorem Fn {P:Program}{pol:Pol}{f:Nat}{args l:List AV}{H H1:List MB} (hp:pol.pure f=false) (he:pol.ext f=none) (h:frzArgs pol f 0 args H=some (l,H1)) (h2:frzArgs pol f 0 l H1=some (l,H1)) (hy:f≠yldF:=by decide) :
  call P pol f args H=call P pol f l H1:=by
 rw[Bk,Bk];unfold evStep;simp only[hp,false_eq_true,if_false,if_neg hy];unfold evBody;simp only[he,h,h2]
theorem Jp (A K:List MB) (t:List Int) (fuel:Int) (s:SS) (e:Nat) (cells:List AV) (i:Int) (c:Caps) (hp:AV.plainL cells=true) :
  call Pg pol1 97 [.rf A.length 1 0 0,.rf (A.length+(K.length+1+1+1)) 1 0 0,I i,capA c] (srH A t fuel s e (K++[.row 12 [.agg cells] 0])) =
   call Pg pol1 97 [.rf A.length 1 0 0,.pt cells,I i,capA c] (srH A t fuel s e (K++[.row 12 [.agg cells] 1])):=by
 refine Fn rfl rfl ?_ (AL _ _ _ (by simp[mixOk,show pol1.byref 97 0=true from rfl,AV.plain,hp,AF]));have h0:pol1.byref 97 0=true:=rfl;have h1:pol1.byref 97 1=false:=rfl;have h2:pol1.byref 97 2=false:=rfl;have h3:pol1.byref 97 3=false:=rfl;have hget:∀ v,(srH A t fuel s e (K++[v]))[A.length+(K.length+1+1+1)]?=some v:=fun v=>by
  rw[getElem?_append_right (by omega)];simp
 have hset:∀ u v,(srH A t fuel s e (K++[u])).set (A.length+(K.length+1+1+1)) v=srH A t fuel s e (K++[v]):=fun u v=>by
  rw[set_append_right _ _ (by omega)];simp
 have hz:=HK (id:=A.length+(K.length+1+1+1)) (tot:=1) (i:=0) (j:=0) (k:=12) (z:=0) (H:=srH A t fuel s e (K++[.row 12 [.agg cells] 0])) (els:=[.agg cells]) (x:=.agg cells) (by unfold getRow;rw[hget]) rfl rfl hp;have hm:mark (srH A t fuel s e (K++[.row 12 [.agg cells] 0])) (A.length+(K.length+1+1+1)) (0+1)=srH A t fuel s e (K++[.row 12 [.agg cells] 1]):=by
  unfold mark getRow;simp only[hget,hset];rfl
 rw[hm]at hz;have hc:∀ H,fz (capA c) H=some (capA c,H):=fun H=>Az H (by simp[AV.plain,AF]);have hi:∀ H,fz (I i) H=some (I i,H):=fun H=>rfl;simp only[frzArgs,h0,h1,h2,h3,false_eq_true,if_false,if_true,hz,hc,hi];rfl
theorem BN {A K L:List MB}{t:List Int}{fuel:Int}{s:SS}{e:Nat}:srH A t fuel s e K++L=srH A t fuel s e (K++L):=by simp
theorem BK {A K L:List MB}{t:List Int}{fuel:Int}{s:SS}{e:Nat}{v:MB}:(srH A t fuel s e (K++v::L))[A.length+(K.length+1+1+1)]?=some v:=by
 rw[getElem?_append_right (by omega)];simp
theorem BP {A K L:List MB}{t:List Int}{fuel:Int}{s:SS}{e:Nat}{u v:MB}:(srH A t fuel s e (K++u::L)).set (A.length+(K.length+1+1+1)) v=srH A t fuel s e (K++v::L):=by
 rw[set_append_right _ _ (by omega)];simp
theorem As {A K L:List MB}{t:List Int}{fuel:Int}{s:SS}{e:Nat}{u v:MB}:(srH A t fuel s e (K++u::v::L))[A.length+(K.length+1+1+1+1)]?=some v:=by
 rw[getElem?_append_right (by omega)];rw[show A.length+(K.length+1+1+1+1)-A.length=(K.length+1)+1+1+1 by omega];simp only[List.getElem?_cons_succ];rw[getElem?_append_right (by omega)];simp
theorem A8 {A K L:List MB}{t:List Int}{fuel:Int}{s:SS}{e:Nat}{u v w:MB}:(srH A t fuel s e (K++u::v::L)).set (A.length+(K.length+1+1+1+1)) w=srH A t fuel s e (K++u::w::L):=by
 rw[set_append_right _ _ (by omega)];rw[show A.length+(K.length+1+1+1+1)-A.length=(K.length+1)+1+1+1 by omega];simp only[List.set_cons_succ];rw[set_append_right _ _ (by omega)];simp
theorem BH {A K L L':List MB}{t:List Int}{fuel:Int}{s:SS}{e:Nat}{u:MB}:sameAt (A.length+(K.length+1+1+1)) (srH A t fuel s e (K++u::L)) (srH A t fuel s e (K++u::L'))=true:=by
 unfold sameAt;rw[BK,BK];exact MB.beq_refl u
theorem Oe {H H1 H2:List MB}{a b:Nat}{pre ca:List AV} (hb:getRow H b=some (12,[.agg (pre++[.rf a 1 0 0])],0)) (hm:mark H b 1=H1) (ha:getRow H1 a=some (12,[.agg ca],0)) (hm2:mark H1 a 1=H2)
  (hp:AV.plainL pre=true) (hc:AV.plainL ca=true):fz (.rf b 1 0 0) H=some (.pt (pre++[.pt ca]),H2):=by
 have hin:fzA (fzJ 5) (.rf a 1 0 0) H1=some (.pt ca,H2):=by
  simp only[fzA,ha,length_cons,List.length_nil,Nat.zero_add,if_true,List.getElem?_cons_zero,AV.cells,drop_zero,hm2,fzJ,BO _ _ _ hc]
 have hl:fzL (fzJ 5) (pre++[.rf a 1 0 0]) H1=some (pre++[.pt ca],H2):=by
  rw[HL,BO _ _ _ hp];simp only[fzL,hin]
 simp only[fz,fzA,hb,length_cons,List.length_nil,Nat.zero_add,if_true,List.getElem?_cons_zero,AV.cells,drop_zero,hm];show (match fzL (fzJ 5) (pre++[AV.rf a 1 0 0]) H1 with|some (ys,H')=>some (AV.pt ys,H')|none=>none)=_;rw[hl]
theorem GP {A K L:List MB}{t:List Int}{fuel:Int}{s:SS}{e:Nat}{u v w:MB}:(srH A t fuel s e (K++u::v::w::L))[A.length+(K.length+2+1+1+1)]?=some w:=by
 rw[getElem?_append_right (by omega)];rw[show A.length+(K.length+2+1+1+1)-A.length=(K.length+2)+1+1+1 by omega];simp only[List.getElem?_cons_succ];rw[getElem?_append_right (by omega)];simp
theorem MN {A K L:List MB}{t:List Int}{fuel:Int}{s:SS}{e:Nat}{u v w x:MB}:(srH A t fuel s e (K++u::v::w::L)).set (A.length+(K.length+2+1+1+1)) x=srH A t fuel s e (K++u::v::x::L):=by
 rw[set_append_right _ _ (by omega)];rw[show A.length+(K.length+2+1+1+1)-A.length=(K.length+2)+1+1+1 by omega];simp only[List.set_cons_succ];rw[set_append_right _ _ (by omega)];simp
theorem Pk {fuel:Int}{R:RunT}{op:Int}{set:List (Int×Int)}{kid:Re}{mn mx md n:Int}{neg:Bool}{k:Int}{next:Goal}{i:Int}{c:Caps}{s:SS} :
 repR fuel R (.mk op set [kid] mn mx md n neg) k next i c s =
  if(stepS fuel s).empty=true then some (true,stepS fuel s)
  else if k<mn then R (.mk 0 kid 0 0 (.mk 2 (.mk op set [kid] mn mx md n neg) k i next)) i c (stepS fuel s)
  else if md=1 then orR (R next i c (stepS fuel s)) fun s2=>if(decide (mx = -1)||decide (k<mx))=true then R (.mk 0 kid 0 0 (.mk 2 (.mk op set [kid] mn mx md n neg) k i next)) i c s2 else some (false,s2)
  else orR (if(decide (mx = -1)||decide (k<mx))=true then R (.mk 0 kid 0 0 (.mk 2 (.mk op set [kid] mn mx md n neg) k i next)) i c (stepS fuel s) else some (false,stepS fuel s)) fun s2=>R next i c s2:=rfl
theorem f152 {caps top:Int}{t:List Int}{fuel:Int} (ht:t.length<=65536) (hf:0<=fuel/\fuel<=1000000) {R:RunT} (hP:RunP caps top t fuel R) (hR:Run138 caps top t fuel R)
  (A K:List MB) (re:Re) (k fr i:Int) (next:Goal) (c:Caps) (s:SS) (b:Bool) (s':SS) (h:RGood caps top re) (ho:re.op=4) (hk:0<=k/\k<=s.steps) (hi:0<=i/\i<=t.length)
  (hn:GG caps top t.length s.steps next) (hc:c.length<=1000) (hs:SPre fuel s) (he:repR fuel R re k next i c s=some (b,s')) :
  call Pg pol1 131 [.rf A.length 1 0 0,.pt (goalC 1 re k fr next),I i,capA c] (srH A t fuel s s.ends.length K)=some (.bool b,srH A t fuel s' s'.ends.length K):=by
 have h161:=fun K=>f161 A K t fuel s s.ends.length ⟨hs.st.1,by have:=hs.st;omega⟩;have ret:=fun b s' e' L=>JJ (f:=131) rfl rfl b A K L t fuel s s' s.ends.length e';obtain⟨kid,hkid,hgk⟩:=JL h ho;have hmd:=h.md;obtain⟨op,set,kids,mn,mx,md,n,neg⟩:=re;simp only[Re.kids,Re.op,Re.md]at hkid ho hmd;subst hkid;subst ho;have hrep:=(BC h.good.whole).2.2.1 rfl;rw[Pk]at he;have hp8:=CI next
 have hl8:=AM kid;have ht8:=AU kid;have hok8:=Au kid;have hG:goalC 1 (.mk 4 set [kid] mn mx md n neg) k fr next=[I 1,I 4,.sl false (set.map spanAV),.sl false [reAV kid],I mn,I mx,I md,I n,.bool neg,I k,I fr,goalA next]:=by
  rw[goalC,Bh];rfl
 have hgp:=B5 1 (.mk 4 set [kid] mn mx md n neg) k fr next
 rw[hG]at hgp |-;have fr':frzArgs pol1 131 0 [.rf A.length 1 0 0,.pt [I 1,I 4,.sl false (set.map spanAV),.sl false [reAV kid],I mn,I mx,I md,I n,.bool neg,I k,I fr,goalA next],I i,capA c] (srH A t fuel s s.ends.length K)=some ([.rf A.length 1 0 0,.pt [I 1,I 4,.sl false (set.map spanAV),.sl false [reAV kid],I mn,I mx,I md,I n,.bool neg,I k,I fr,goalA next],I i,capA c],srH A t fuel s s.ends.length K):=AL _ _ _ (by
  simp only[mixOk,show pol1.byref 131 0=true from rfl,AV.plain,hgp,AF,Bool.true_or,Bool.or_true,Bool.and_self,Bool.and_true];rfl)
 refine AO (pol:=pol1) Tryz.func131 rfl rfl rfl rfl fr' ?_;by_cases h1:(stepS fuel s).empty=true
 ·rw[if_pos h1]at he;simp only[Option.some.injEq,Prod.mk.injEq]at he;obtain⟨rfl,rfl⟩:=he;have h161:=fun K=>(h161 K).trans (by rw[h1]);simp +contextual (disch:=omega) only[Tryz.f131,C6,go_sem,simprocAttr,AV.cells,C0,↓AD,↓AC,↓AB,↓AA,h161,hmd,BN,BK,BP];exact ret true (stepS fuel s) _ _
 ·rw[if_neg h1]at he;have h1':(stepS fuel s).empty=false:=by simpa using h1
  obtain⟨p1,p2⟩:=CQ hs h1';have h161:=fun K=>(h161 K).trans (by rw[h1']);have hst:(stepS fuel s).steps=s.steps+1:=rfl;have hn1:=hn.mono (show s.steps<=(stepS fuel s).steps by omega);have hon:=FW (next:=next) (i:=i) (L:=t.length) (steps:=(stepS fuel s).steps) h hgk rfl (k:=k) ⟨hk.1,by omega⟩ hi hn1;have hka:∀ L L':List MB,(K++L)++L' = K++(L++L'):=fun L L'=>append_assoc K L L'
  have hfz:∀(R0:MB) (ca:List AV),AV.plainL ca=true->fz (.rf (A.length+(K.length+2+1+1+1)) 1 0 0) (srH A t fuel (stepS fuel s) s.ends.length (K++[R0,.row 12 [.agg ca] 0,.row 12 [.agg (I 0::(reC kid++[I 0,I 0]++[.rf (A.length+(K.length+1+1+1+1)) 1 0 0]))] 0])) =
    some (.pt (I 0::(reC kid++[I 0,I 0]++[.pt ca])),srH A t fuel (stepS fuel s) s.ends.length (K++[R0,.row 12 [.agg ca] 1,.row 12 [.agg (I 0::(reC kid++[I 0,I 0]++[.rf (A.length+(K.length+1+1+1+1)) 1 0 0]))] 1])):=fun R0 ca hca=>by
   have hpre:AV.plainL (I 0::(reC kid++[I 0,I 0]))=true:=by simp[AV.plainL,AV.plain,Bi,AZ]
   refine Oe (H1:=srH A t fuel (stepS fuel s) s.ends.length (K++[R0,.row 12 [.agg ca] 0,.row 12 [.agg (I 0::(reC kid++[I 0,I 0]++[.rf (A.length+(K.length+1+1+1+1)) 1 0 0]))] 1])) (pre:=I 0::(reC kid++[I 0,I 0])) (a:=A.length+(K.length+1+1+1+1)) ?_ ?_ ?_ ?_ hpre hca
   ·unfold getRow;rw[GP];rfl
   ·unfold mark getRow;rw[GP];simp only[MN];rfl
   ·unfold getRow;rw[As]
   ·unfold mark getRow;rw[As];simp only[A8];rfl
  have plain_c2:AV.plainL [I 2,I 4,.sl false (set.map spanAV),.sl false [reAV kid],I mn,I mx,I md,I n,.bool neg,I k,I i,goalA next]=true:=by
   have hq:=B5 2 (.mk 4 set [kid] mn mx md n neg) k i next
   rw[goalC,Bh]at hq;exact hq
  have hGo:goalA (.mk 0 kid 0 0 (.mk 2 (.mk 4 set [kid] mn mx md n neg) k i next))=.pt (I 0::(reC kid++[I 0,I 0]++[.pt [I 2,I 4,.sl false (set.map spanAV),.sl false [reAV kid],I mn,I mx,I md,I n,.bool neg,I k,I i,goalA next]])):=by
   simp only[goalA,Bh,append_assoc,List.cons_append,List.nil_append,map_cons,map_nil]
  have hO:∀(K':List MB) (s2:SS) (b:Bool) (s':SS),(stepS fuel s).steps<=s2.steps->SPre fuel s2->R (.mk 0 kid 0 0 (.mk 2 (.mk 4 set [kid] mn mx md n neg) k i next)) i c s2=some (b,s') ->
    call Pg pol1 97 [.rf A.length 1 0 0,.pt (I 0::(reC kid++[I 0,I 0]++[.pt [I 2,I 4,.sl false (set.map spanAV),.sl false [reAV kid],I mn,I mx,I md,I n,.bool neg,I k,I i,goalA next]])),I i,capA c] (srH A t fuel s2 s2.ends.length K') =
     some (.bool b,srH A t fuel s' s'.ends.length K'):=fun K' s2 b s' h1 h2 e=>by
   have:=hR A K' _ i c s2 b s' (hon.mono h1) hi.1 hi.2 hc h2 e
   rwa [hGo]at this
  have hN:∀(K':List MB) (s2:SS) (b:Bool) (s':SS),(stepS fuel s).steps<=s2.steps->SPre fuel s2->R next i c s2=some (b,s') ->
    call Pg pol1 97 [.rf A.length 1 0 0,goalA next,I i,capA c] (srH A t fuel s2 s2.ends.length K')=some (.bool b,srH A t fuel s' s'.ends.length K'):=fun K' s2 b s' h1 h2 e=>
   hR A K' _ i c s2 b s' (hn1.mono h1) hi.1 hi.2 hc h2 e
  have pO:=fun(b:Bool) (s':SS) e=>hP _ i c _ b s' hon hi.1 hi.2 hc p1 e;have pN:=fun(b:Bool) (s':SS) e=>hP _ i c _ b s' hn1 hi.1 hi.2 hc p1 e;have hmx:mx = -1∨(mx≠-1/\k<mx)∨(mx≠-1/\¬ k<mx):=by omega
  by_cases hkm:k<mn
  ·rw[if_pos hkm]at he;have c1:=fun K'=>hO K' _ b s' (le_refl _) p1 he;rw[show (stepS fuel s).ends.length=s.ends.length from rfl]at c1;rcases hmx with hmx|hmx|hmx
   ·simp +contextual (disch:=omega) only[Tryz.f131,C6,go_sem,simprocAttr,C0,↓AD,↓AC,↓AB,↓AA,h161,hmd,BN,BK,BP,Bool.not_false,hl8,ht8,hok8,BS,BR,BB,Bm,Bn,Bo,A9,BA,AW,Bq,Br,all_append,As,A8,BH,hka,hfz,plain_c2,c1];repeat' (first|apply And.intro|(unfold dOk;kernel_rfl)|exact AW next|(show (_&&_)=true;kernel_rfl)|(show (_||_)=true;kernel_rfl)|intro _)
    all_goals exact ret _ _ _ _
   ·simp +contextual (disch:=omega) only[Tryz.f131,C6,go_sem,simprocAttr,C0,↓AD,↓AC,↓AB,↓AA,h161,hmd,BN,BK,BP,Bool.not_false,hl8,ht8,hok8,BS,BR,BB,Bm,Bn,Bo,A9,BA,AW,Bq,Br,all_append,As,A8,BH,hka,hfz,plain_c2,c1];repeat' (first|apply And.intro|(unfold dOk;kernel_rfl)|exact AW next|(show (_&&_)=true;kernel_rfl)|(show (_||_)=true;kernel_rfl)|intro _)
    all_goals exact ret _ _ _ _
   ·simp +contextual (disch:=omega) only[Tryz.f131,C6,go_sem,simprocAttr,C0,↓AD,↓AC,↓AB,↓AA,h161,hmd,BN,BK,BP,Bool.not_false,hl8,ht8,hok8,BS,BR,BB,Bm,Bn,Bo,A9,BA,AW,Bq,Br,all_append,As,A8,BH,hka,hfz,plain_c2,c1];repeat' (first|apply And.intro|(unfold dOk;kernel_rfl)|exact AW next|(show (_&&_)=true;kernel_rfl)|(show (_||_)=true;kernel_rfl)|intro _)
    all_goals exact ret _ _ _ _
  ·rw[if_neg hkm]at he;by_cases hlz:md=1
   ·subst hlz;rw[if_pos rfl]at he;unfold orR at he;split at he
    ·cases he
    ·rename_i s2 e2;simp only[Option.some.injEq,Prod.mk.injEq]at he;obtain⟨rfl,rfl⟩:=he;have c1:=fun K'=>hN K' _ true _ (le_refl _) p1 e2;rw[show (stepS fuel s).ends.length=s.ends.length from rfl]at c1;rcases hmx with hmx|hmx|hmx
     ·simp +contextual (disch:=omega) only[Tryz.f131,C6,go_sem,simprocAttr,C0,↓AD,↓AC,↓AB,↓AA,h161,hmd,BN,BK,BP,Bool.not_false,hl8,ht8,hok8,BS,BR,BB,Bm,Bn,Bo,A9,BA,AW,Bq,Br,all_append,As,A8,BH,hka,hfz,plain_c2,c1];repeat' (first|apply And.intro|(unfold dOk;kernel_rfl)|exact AW next|(show (_&&_)=true;kernel_rfl)|(show (_||_)=true;kernel_rfl)|intro _)
      all_goals exact ret _ _ _ _
     ·simp +contextual (disch:=omega) only[Tryz.f131,C6,go_sem,simprocAttr,C0,↓AD,↓AC,↓AB,↓AA,h161,hmd,BN,BK,BP,Bool.not_false,hl8,ht8,hok8,BS,BR,BB,Bm,Bn,Bo,A9,BA,AW,Bq,Br,all_append,As,A8,BH,hka,hfz,plain_c2,c1];repeat' (first|apply And.intro|(unfold dOk;kernel_rfl)|exact AW next|(show (_&&_)=true;kernel_rfl)|(show (_||_)=true;kernel_rfl)|intro _)
      all_goals exact ret _ _ _ _
     ·simp +contextual (disch:=omega) only[Tryz.f131,C6,go_sem,simprocAttr,C0,↓AD,↓AC,↓AB,↓AA,h161,hmd,BN,BK,BP,Bool.not_false,hl8,ht8,hok8,BS,BR,BB,Bm,Bn,Bo,A9,BA,AW,Bq,Br,all_append,As,A8,BH,hka,hfz,plain_c2,c1];repeat' (first|apply And.intro|(unfold dOk;kernel_rfl)|exact AW next|(show (_&&_)=true;kernel_rfl)|(show (_||_)=true;kernel_rfl)|intro _)
      all_goals exact ret _ _ _ _
    ·rename_i s2 e2;simp only at he;have c1:=fun K'=>hN K' _ false s2 (le_refl _) p1 e2;rw[show (stepS fuel s).ends.length=s.ends.length from rfl]at c1;have q2:=pN _ _ e2;have p3:=q2.pre p1 p2;rcases hmx with hmx|hmx|hmx
     ·rw[if_pos (by simp[hmx])]at he;have c2:=fun K'=>hO K' _ b s' q2.st p3 he;simp +contextual (disch:=omega) only[Tryz.f131,C6,go_sem,simprocAttr,C0,↓AD,↓AC,↓AB,↓AA,h161,hmd,BN,BK,BP,Bool.not_false,hl8,ht8,hok8,BS,BR,BB,Bm,Bn,Bo,A9,BA,AW,Bq,Br,all_append,As,A8,BH,hka,hfz,plain_c2,c1,c2];repeat' (first|apply And.intro|(unfold dOk;kernel_rfl)|exact AW next|(show (_&&_)=true;kernel_rfl)|(show (_||_)=true;kernel_rfl)|intro _)
      all_goals exact ret _ _ _ _
     ·rw[if_pos (by simp[hmx])]at he;have c2:=fun K'=>hO K' _ b s' q2.st p3 he;simp +contextual (disch:=omega) only[Tryz.f131,C6,go_sem,simprocAttr,C0,↓AD,↓AC,↓AB,↓AA,h161,hmd,BN,BK,BP,Bool.not_false,hl8,ht8,hok8,BS,BR,BB,Bm,Bn,Bo,A9,BA,AW,Bq,Br,all_append,As,A8,BH,hka,hfz,plain_c2,c1,c2];repeat' (first|apply And.intro|(unfold dOk;kernel_rfl)|exact AW next|(show (_&&_)=true;kernel_rfl)|(show (_||_)=true;kernel_rfl)|intro _)
      all_goals exact ret _ _ _ _
     ·rw[if_neg (by simp[hmx])]at he;simp only[Option.some.injEq,Prod.mk.injEq]at he;obtain⟨rfl,rfl⟩:=he;simp +contextual (disch:=omega) only[Tryz.f131,C6,go_sem,simprocAttr,C0,↓AD,↓AC,↓AB,↓AA,h161,hmd,BN,BK,BP,Bool.not_false,hl8,ht8,hok8,BS,BR,BB,Bm,Bn,Bo,A9,BA,AW,Bq,Br,all_append,As,A8,BH,hka,hfz,plain_c2,c1];repeat' (first|apply And.intro|(unfold dOk;kernel_rfl)|exact AW next|(show (_&&_)=true;kernel_rfl)|(show (_||_)=true;kernel_rfl)|intro _)
      all_goals exact ret _ _ _ _
   ·rw[if_neg hlz]at he;unfold orR at he;rcases hmx with hmx|hmx|hmx
    ·rw[if_pos (by simp[hmx])]at he;split at he
     ·cases he
     ·rename_i s2 e2;simp only[Option.some.injEq,Prod.mk.injEq]at he;obtain⟨rfl,rfl⟩:=he;have c1:=fun K'=>hO K' _ true _ (le_refl _) p1 e2;rw[show (stepS fuel s).ends.length=s.ends.length from rfl]at c1;simp +contextual (disch:=omega) only[Tryz.f131,C6,go_sem,simprocAttr,C0,↓AD,↓AC,↓AB,↓AA,h161,hmd,BN,BK,BP,Bool.not_false,hl8,ht8,hok8,BS,BR,BB,Bm,Bn,Bo,A9,BA,AW,Bq,Br,all_append,As,A8,BH,hka,hfz,plain_c2,c1];repeat' (first|apply And.intro|(unfold dOk;kernel_rfl)|exact AW next|(show (_&&_)=true;kernel_rfl)|(show (_||_)=true;kernel_rfl)|intro _)
      all_goals exact ret _ _ _ _
     ·rename_i s2 e2;have c1:=fun K'=>hO K' _ false s2 (le_refl _) p1 e2;rw[show (stepS fuel s).ends.length=s.ends.length from rfl]at c1;have q2:=pO _ _ e2;have p3:=q2.pre p1 p2;have c2:=fun K'=>hN K' _ b s' q2.st p3 he;simp +contextual (disch:=omega) only[Tryz.f131,C6,go_sem,simprocAttr,C0,↓AD,↓AC,↓AB,↓AA,h161,hmd,BN,BK,BP,Bool.not_false,hl8,ht8,hok8,BS,BR,BB,Bm,Bn,Bo,A9,BA,AW,Bq,Br,all_append,As,A8,BH,hka,hfz,plain_c2,c1,c2];repeat' (first|apply And.intro|(unfold dOk;kernel_rfl)|exact AW next|(show (_&&_)=true;kernel_rfl)|(show (_||_)=true;kernel_rfl)|intro _)
      all_goals exact ret _ _ _ _
    ·rw[if_pos (by simp[hmx])]at he;split at he
     ·cases he
     ·rename_i s2 e2;simp only[Option.some.injEq,Prod.mk.injEq]at he;obtain⟨rfl,rfl⟩:=he;have c1:=fun K'=>hO K' _ true _ (le_refl _) p1 e2;rw[show (stepS fuel s).ends.length=s.ends.length from rfl]at c1;simp +contextual (disch:=omega) only[Tryz.f131,C6,go_sem,simprocAttr,C0,↓AD,↓AC,↓AB,↓AA,h161,hmd,BN,BK,BP,Bool.not_false,hl8,ht8,hok8,BS,BR,BB,Bm,Bn,Bo,A9,BA,AW,Bq,Br,all_append,As,A8,BH,hka,hfz,plain_c2,c1];repeat' (first|apply And.intro|(unfold dOk;kernel_rfl)|exact AW next|(show (_&&_)=true;kernel_rfl)|(show (_||_)=true;kernel_rfl)|intro _)
      all_goals exact ret _ _ _ _
     ·rename_i s2 e2;have c1:=fun K'=>hO K' _ false s2 (le_refl _) p1 e2;rw[show (stepS fuel s).ends.length=s.ends.length from rfl]at c1;have q2:=pO _ _ e2;have p3:=q2.pre p1 p2;have c2:=fun K'=>hN K' _ b s' q2.st p3 he;simp +contextual (disch:=omega) only[Tryz.f131,C6,go_sem,simprocAttr,C0,↓AD,↓AC,↓AB,↓AA,h161,hmd,BN,BK,BP,Bool.not_false,hl8,ht8,hok8,BS,BR,BB,Bm,Bn,Bo,A9,BA,AW,Bq,Br,all_append,As,A8,BH,hka,hfz,plain_c2,c1,c2];repeat' (first|apply And.intro|(unfold dOk;kernel_rfl)|exact AW next|(show (_&&_)=true;kernel_rfl)|(show (_||_)=true;kernel_rfl)|intro _)
      all_goals exact ret _ _ _ _
    ·rw[if_neg (by simp[hmx])]at he;simp only at he;have c1:=fun K'=>hN K' _ b s' (le_refl _) p1 he;rw[show (stepS fuel s).ends.length=s.ends.length from rfl]at c1;simp +contextual (disch:=omega) only[Tryz.f131,C6,go_sem,simprocAttr,C0,↓AD,↓AC,↓AB,↓AA,h161,hmd,BN,BK,BP,Bool.not_false,hl8,ht8,hok8,BS,BR,BB,Bm,Bn,Bo,A9,BA,AW,Bq,Br,all_append,As,A8,BH,hka,hfz,plain_c2,c1];repeat' (first|apply And.intro|(unfold dOk;kernel_rfl)|exact AW next|(show (_&&_)=true;kernel_rfl)|(show (_||_)=true;kernel_rfl)|intro _)
     all_goals exact ret _ _ _ _
end
section
attribute [local go_sem] evAppend map_append
theorem PE {f:Nat} (hpu:pol1.pure f=false) (hex:pol1.ext f=none) (h0:pol1.byref f 0=true) (h1:pol1.byref f 1=false) (h2:pol1.byref f 2=false) (h3:pol1.byref f 3=false) (hy:f≠yldF)
  (A K:List MB) (X:MB) (t:List Int) (fuel:Int) (s:SS) (e:Nat) (cells:List AV) (i:Int) (c:Caps) (hp:AV.plainL cells=true) :
  call Pg pol1 f [.rf A.length 1 0 0,.rf (A.length+(K.length+1+1+1+1)) 1 0 0,I i,capA c] (srH A t fuel s e (K++[X,.row 12 [.agg cells] 0])) =
   call Pg pol1 f [.rf A.length 1 0 0,.pt cells,I i,capA c] (srH A t fuel s e (K++[X,.row 12 [.agg cells] 1])):=by
 refine Fn hpu hex ?_ (AL _ _ _ (by simp[mixOk,h0,AV.plain,hp,AF])) hy;have hz:=HK (id:=A.length+(K.length+1+1+1+1)) (tot:=1) (i:=0) (j:=0) (k:=12) (z:=0) (H:=srH A t fuel s e (K++[X,.row 12 [.agg cells] 0])) (els:=[.agg cells]) (x:=.agg cells) (by unfold getRow;rw[As]) rfl rfl hp;have hm:mark (srH A t fuel s e (K++[X,.row 12 [.agg cells] 0])) (A.length+(K.length+1+1+1+1)) (0+1)=srH A t fuel s e (K++[X,.row 12 [.agg cells] 1]):=by
  unfold mark getRow;rw[As];simp only[A8];rfl
 rw[hm]at hz;have hc:∀ H,fz (capA c) H=some (capA c,H):=fun H=>Az H (by simp[AV.plain,AF]);have hi:∀ H,fz (I i) H=some (I i,H):=fun H=>rfl;simp only[frzArgs,h0,h1,h2,h3,false_eq_true,if_false,if_true,hz,hc,hi];rfl
theorem PZ {caps top:Int}{set:List (Int×Int)}{kids:List Re}{mn mx md n:Int}{neg:Bool} (h:wholeG caps top (.mk 1 set kids mn mx md n neg)=true):set.length<=64:=by
 rw[wholeG,and_eq_true]at h;have h1:=h.1;simp only[formedG,and_eq_true]at h1;have h2:=h1.1.1.1.2;rw[if_pos trivial]at h2;simp only[spansG,and_eq_true,decide_eq_true_eq]at h2;exact h2.1
theorem PI {caps top:Int}{set:List (Int×Int)}{kids:List Re}{mn mx md n:Int}{neg:Bool} (h:wholeG caps top (.mk 11 set kids mn mx md n neg)=true):0<=n/\n<=5:=by
 rw[wholeG,and_eq_true]at h;have h1:=h.1;simp only[formedG,and_eq_true]at h1;have h2:=h1.1.2;rw[if_neg (by omega),if_pos trivial,and_eq_true,decide_eq_true_eq,decide_eq_true_eq]at h2;exact h2
theorem P9 (A K:List MB) (X:MB) (L:List MB) (t:List Int) (fuel:Int) (s:SS) (e:Nat) (cells:List AV) (hp:AV.plainL cells=true) :
  fz (.rf (A.length+(K.length+(L.length+1)+1+1+1)) 1 0 0) (srH A t fuel s e (K++X::(L++[.row 12 [.agg cells] 0])))=some (.pt cells,srH A t fuel s e (K++X::(L++[.row 12 [.agg cells] 1]))):=by
 have hM:∀ v:MB,K++X::(L++[v])=(K++X::L)++v::[]:=fun v=>by simp
 have hl:K.length+(L.length+1)=(K++X::L).length:=by simp
 rw[hM,hM,hl];have hz:=HK (id:=A.length+((K++X::L).length+1+1+1)) (tot:=1) (i:=0) (j:=0) (k:=12) (z:=0) (H:=srH A t fuel s e ((K++X::L)++.row 12 [.agg cells] 0::[])) (els:=[.agg cells]) (x:=.agg cells) (by unfold getRow;rw[BK]) rfl rfl hp;have hm:mark (srH A t fuel s e ((K++X::L)++.row 12 [.agg cells] 0::[])) (A.length+((K++X::L).length+1+1+1)) (0+1)=srH A t fuel s e ((K++X::L)++.row 12 [.agg cells] 1::[]):=by
  unfold mark getRow;rw[BK];simp only[BP];rfl
 rw[hm]at hz;exact hz
theorem PF (A K:List MB) (X:MB) (t:List Int) (fuel:Int) (s:SS) (e:Nat) (kid:Re) (ca:List AV) (i:Int) (c:Caps) (hca:AV.plainL ca=true) :
  call Pg pol1 97 [.rf A.length 1 0 0,.rf (A.length+(K.length+2+1+1+1)) 1 0 0,I i,capA c] (srH A t fuel s e (K++[X,.row 12 [.agg ca] 0,.row 12 [.agg (I 0::(reC kid++[I 0,I 0]++[.rf (A.length+(K.length+1+1+1+1)) 1 0 0]))] 0])) =
   call Pg pol1 97 [.rf A.length 1 0 0,.pt (I 0::(reC kid++[I 0,I 0]++[.pt ca])),I i,capA c] (srH A t fuel s e (K++[X,.row 12 [.agg ca] 1,.row 12 [.agg (I 0::(reC kid++[I 0,I 0]++[.rf (A.length+(K.length+1+1+1+1)) 1 0 0]))] 1])):=by
 have hpre:AV.plainL (I 0::(reC kid++[I 0,I 0]))=true:=by simp[AV.plainL,AV.plain,Bi,AZ]
 have hall:AV.plainL (I 0::(reC kid++[I 0,I 0]++[.pt ca]))=true:=by simp[AV.plainL,AV.plain,Bi,AZ,hca]
 have hz:=Oe (H:=srH A t fuel s e (K++[X,.row 12 [.agg ca] 0,.row 12 [.agg (I 0::(reC kid++[I 0,I 0]++[.rf (A.length+(K.length+1+1+1+1)) 1 0 0]))] 0])) (H1:=srH A t fuel s e (K++[X,.row 12 [.agg ca] 0,.row 12 [.agg (I 0::(reC kid++[I 0,I 0]++[.rf (A.length+(K.length+1+1+1+1)) 1 0 0]))] 1]))
  (H2:=srH A t fuel s e (K++[X,.row 12 [.agg ca] 1,.row 12 [.agg (I 0::(reC kid++[I 0,I 0]++[.rf (A.length+(K.length+1+1+1+1)) 1 0 0]))] 1])) (pre:=I 0::(reC kid++[I 0,I 0])) (a:=A.length+(K.length+1+1+1+1)) (b:=A.length+(K.length+2+1+1+1)) (ca:=ca)
  (by unfold getRow;rw[GP];rfl) (by unfold mark getRow;rw[GP];simp only[MN];rfl) (by unfold getRow;rw[As]) (by unfold mark getRow;rw[As];simp only[A8];rfl) hpre hca
 have h0:pol1.byref 97 0=true:=rfl;have h1:pol1.byref 97 1=false:=rfl;have h2:pol1.byref 97 2=false:=rfl;have h3:pol1.byref 97 3=false:=rfl;refine Fn rfl rfl ?_ (AL _ _ _ (by simp[mixOk,h0,AV.plain,AV.plainL,Bi,AZ,hca,AF]));have hc:∀ H,fz (capA c) H=some (capA c,H):=fun H=>Az H (by simp[AV.plain,AF]);have hi:∀ H,fz (I i) H=some (I i,H):=fun H=>rfl;simp only[frzArgs,h0,h1,h2,h3,false_eq_true,if_false,if_true,hz,hc,hi];rfl
theorem OR {t:List Int}{fuel:Int}{R:RunT}{op:Int}{set:List (Int×Int)}{kids:List Re}{mn mx md n:Int}{neg:Bool}{next:Goal}{i:Int}{c:Caps}{s:SS} :
 nodeR t fuel R (.mk op set kids mn mx md n neg) next i c s =
  if op=4 then repR fuel R (.mk op set kids mn mx md n neg) 0 next i c s
  else if(stepS fuel s).empty=true then some (true,stepS fuel s)
  else if op=1 then
   (match t[i.toNat]? with
   | some x=>if hasSpan set x=true then R next (i+1) c (stepS fuel s) else some (false,stepS fuel s)
   | none=>some (false,stepS fuel s))
  else if op=2 then R (catG next kids) i c (stepS fuel s)
  else if op=3 then altR R next i c kids (stepS fuel s)
  else if op=5 then
   (match kids with
   | []=>none
   | kid::_=>R (.mk 0 kid 0 0 (.mk 3 (.mk op set kids mn mx md n neg) 0 i next)) i c (stepS fuel s))
  else if op=11 then(if assertI n (befS t i.toNat) t[i.toNat]?=true then R next i c (stepS fuel s) else some (false,stepS fuel s))
  else R next i c (stepS fuel s):=rfl
theorem f154 {caps top:Int}{t:List Int}{fuel:Int} (ht:t.length<=65536) (hf:0<=fuel/\fuel<=1000000) {R:RunT} (hP:RunP caps top t fuel R) (hR:Run138 caps top t fuel R)
  (A K:List MB) (kind:Int) (re:Re) (k fr:Int) (i:Nat) (next:Goal) (c:Caps) (s:SS) (b:Bool) (s':SS) (h:RGood caps top re) (hi:i<=t.length)
  (hn:GG caps top t.length s.steps next) (hc:c.length<=1000) (hs:SPre fuel s) (he:nodeR t fuel R re next i c s=some (b,s')) :
  call Pg pol1 133 [.rf A.length 1 0 0,.pt (goalC kind re k fr next),I i,capA c] (srH A t fuel s s.ends.length K)=some (.bool b,srH A t fuel s' s'.ends.length K):=by
 have h161:=fun K=>f161 A K t fuel s s.ends.length ⟨hs.st.1,by have:=hs.st;omega⟩;have ret:=fun b s' e' L=>JJ (f:=133) rfl rfl b A K L t fuel s s' s.ends.length e';have hp8:=CI next
 have hka:∀ L L':List MB,(K++L)++L' = K++(L++L'):=fun L L'=>append_assoc K L L';obtain⟨op,set,kids,mn,mx,md,n,neg⟩:=re;have hgp:=B5 kind (.mk op set kids mn mx md n neg) k fr next
 have hgp1:=B5 1 (.mk op set kids mn mx md n neg) 0 0 next
 have hG:∀ kind k fr next,goalC kind (.mk op set kids mn mx md n neg) k fr next=[I kind,I op,.sl false (set.map spanAV),.sl false (kids.map reAV),I mn,I mx,I md,I n,.bool neg,I k,I fr,goalA next]:=fun kind k fr next=>by
  rw[goalC,Bh];rfl
 rw[hG]at hgp hgp1 |-;have fr':frzArgs pol1 133 0 [.rf A.length 1 0 0,.pt [I kind,I op,.sl false (set.map spanAV),.sl false (kids.map reAV),I mn,I mx,I md,I n,.bool neg,I k,I fr,goalA next],I i,capA c] (srH A t fuel s s.ends.length K)=some ([.rf A.length 1 0 0,.pt [I kind,I op,.sl false (set.map spanAV),.sl false (kids.map reAV),I mn,I mx,I md,I n,.bool neg,I k,I fr,goalA next],I i,capA c],srH A t fuel s s.ends.length K):=AL _ _ _ (by
  simp only[mixOk,show pol1.byref 133 0=true from rfl,AV.plain,hgp,AF,Bool.true_or,Bool.or_true,Bool.and_self,Bool.and_true];rfl)
 refine AO (pol:=pol1) Tryz.func133 rfl rfl rfl rfl fr' ?_;have hop:=h.good.op;have hkl:=h.len;simp only[Re.kids]at hkl;have hst:(stepS fuel s).steps=s.steps+1:=rfl;have hn1:=hn.mono (show s.steps<=(stepS fuel s).steps by omega);by_cases h4:op=4
 ·subst h4;have he:repR fuel R (.mk 4 set kids mn mx md n neg) 0 next i c s=some (b,s'):=he
  have c1:=fun K'=>f152 ht hf hP hR A K' (.mk 4 set kids mn mx md n neg) 0 0 i next c s b s' h rfl ⟨le_refl _,hs.st.1⟩ ⟨by omega,by omega⟩ hn hc hs he
  rw[hG]at c1;have c2:=fun X=>(PE (f:=131) rfl rfl rfl rfl rfl rfl (by decide) A K X t fuel s s.ends.length _ i c hgp1).trans (c1 _);simp +contextual (disch:=omega) only[Tryz.f133,Cm,go_sem,simprocAttr,Cl,↓AD,↓AC,↓AB,↓AA,c2,BN,BK,BP,Bool.not_false,BS,BR,BB,Bm,Bn,Bo,A9,BA,AW,all_append,As,A8,BH,hka];repeat' (first|apply And.intro|(unfold dOk;kernel_rfl)|exact AW next|(show (_&&_)=true;kernel_rfl)|(show (_||_)=true;kernel_rfl)|intro _)
  all_goals exact ret _ _ _ _
 ·rw[OR,if_neg h4]at he;by_cases h1:(stepS fuel s).empty=true
  ·rw[if_pos h1]at he;simp only[Option.some.injEq,Prod.mk.injEq]at he;obtain⟨rfl,rfl⟩:=he;have h161:=fun K=>(h161 K).trans (by rw[h1]);simp +contextual (disch:=omega) only[Tryz.f133,Cm,go_sem,simprocAttr,Cl,↓AD,↓AC,↓AB,↓AA,h161,h4,BN,BK,BP,Bool.not_false,BS,BR,BB,Bm,Bn,Bo,A9,BA,AW,all_append,As,A8,BH,hka,Bs];repeat' (first|apply And.intro|(unfold dOk;kernel_rfl)|exact AW next|(show (_&&_)=true;kernel_rfl)|(show (_||_)=true;kernel_rfl)|intro _)
   all_goals exact ret _ _ _ _
  rw[if_neg h1,Int.toNat_natCast]at he;have h1':(stepS fuel s).empty=false:=by simpa using h1
  obtain⟨p1,p2⟩:=CQ hs h1';have h161:=fun K=>(h161 K).trans (by rw[h1'])
  have hN:∀(K':List MB) (j:Nat) (b:Bool) (s':SS),j<=t.length->R next j c (stepS fuel s)=some (b,s') ->
    call Pg pol1 97 [.rf A.length 1 0 0,goalA next,I j,capA c] (srH A t fuel (stepS fuel s) s.ends.length K')=some (.bool b,srH A t fuel s' s'.ends.length K'):=fun K' j b s' h1 e=>
   hR A K' _ j c _ b s' hn1 (by omega) (by omega) hc p1 e
  rcases hop with rfl|rfl|rfl|rfl|rfl|rfl|rfl
  ·-- nothing
   rw[if_neg (by omega),if_neg (by omega),if_neg (by omega),if_neg (by omega),if_neg (by omega)]at he;have c1:=fun K'=>hN K' i b s' hi he;simp +contextual (disch:=omega) only[Tryz.f133,Cm,go_sem,simprocAttr,Cl,↓AD,↓AC,↓AB,↓AA,h161,c1,BN,BK,BP,Bool.not_false,BS,BR,BB,Bm,Bn,Bo,A9,BA,AW,all_append,As,A8,BH,hka,Bs];repeat' (first|apply And.intro|(unfold dOk;kernel_rfl)|exact AW next|(show (_&&_)=true;kernel_rfl)|(show (_||_)=true;kernel_rfl)|intro _)
   all_goals exact ret _ _ _ _
  ·-- a set
   rw[if_pos rfl]at he;have hsl:set.length<=1000000:=by
    have h64:set.length<=64:=PZ h.good.whole;omega
   by_cases hlt:i<t.length
   ·obtain⟨x,hx⟩:∃ x,t[i]?=some x:=⟨_,List.getElem?_eq_getElem hlt⟩;rw[hx]at he;simp only at he;have h162:=f162 set x hsl;cases hh:hasSpan set x with
    | true=>
      rw[hh,if_pos rfl,show (i:Int)+1=((i+1:Nat):Int) by omega]at he;rw[hh]at h162;have c1:=fun K'=>hN K' (i+1) b s' (by omega) he;simp +contextual (disch:=omega) only[Tryz.f133,Cm,go_sem,simprocAttr,Cl,↓AD,↓AC,↓AB,↓AA,h161,h162,hx,c1,BN,BK,BP,Bool.not_false,BS,BR,BB,Bm,Bn,Bo,A9,BA,AW,all_append,As,A8,BH,hka,Bs];repeat' (first|apply And.intro|(unfold dOk;kernel_rfl)|exact AW next|(show (_&&_)=true;kernel_rfl)|(show (_||_)=true;kernel_rfl)|intro _)
      all_goals exact ret _ _ _ _
    | false=>
      rw[hh,if_neg Bool.false_ne_true]at he;rw[hh]at h162;simp only[Option.some.injEq,Prod.mk.injEq]at he;obtain⟨rfl,rfl⟩:=he;simp +contextual (disch:=omega) only[Tryz.f133,Cm,go_sem,simprocAttr,Cl,↓AD,↓AC,↓AB,↓AA,h161,h162,hx,BN,BK,BP,Bool.not_false,BS,BR,BB,Bm,Bn,Bo,A9,BA,AW,all_append,As,A8,BH,hka,Bs];repeat' (first|apply And.intro|(unfold dOk;kernel_rfl)|exact AW next|(show (_&&_)=true;kernel_rfl)|(show (_||_)=true;kernel_rfl)|intro _)
      all_goals exact ret _ _ _ _
   ·rw[List.getElem?_eq_none (by omega)]at he;simp only[Option.some.injEq,Prod.mk.injEq]at he;obtain⟨rfl,rfl⟩:=he;simp +contextual (disch:=omega) only[Tryz.f133,Cm,go_sem,simprocAttr,Cl,↓AD,↓AC,↓AB,↓AA,h161,BN,BK,BP,Bool.not_false,BS,BR,BB,Bm,Bn,Bo,A9,BA,AW,all_append,As,A8,BH,hka,Bs];repeat' (first|apply And.intro|(unfold dOk;kernel_rfl)|exact AW next|(show (_&&_)=true;kernel_rfl)|(show (_||_)=true;kernel_rfl)|intro _)
    all_goals exact ret _ _ _ _
  ·-- one after the other
   rw[if_neg (by omega),if_pos rfl]at he;have c1:=fun K'=>hR A K' (catG next kids) i c _ b s' (GG.cat (by omega) hn1 h.kids) (by omega) (by omega) hc p1 he;rw[show (stepS fuel s).ends.length=s.ends.length from rfl]at c1;obtain⟨X,hX⟩:∃ X:MB,X=.row 8 [.agg [I 2,.sl false (set.map spanAV),.sl false (kids.map reAV),I mn,I mx,I md,I n,.bool neg]] 0:=⟨_,rfl⟩;simp +contextual (disch:=omega) only[Tryz.f133,Cm,go_sem,simprocAttr,Cl,↓AD,↓AC,↓AB,↓AA,h161,BN,BK,BP,Bool.not_false,BS,BR,BB,Bm,Bn,Bo,A9,BA,AW,all_append,As,A8,BH,hka,Bs]
   refine Dk (σ:=Nat×List MB) (M:=⟨some [11,10,9,3,2,0],none,[]⟩) rfl (fun x=>(⟨341,[(11,I ((x.1:Int)-1)),(10,goalA (catG next (kids.drop x.1))),(9,.rf (A.length+(K.length+1+1+1)) 1 0 0),(3,capA c),(2,I i),(0,.rf A.length 1 0 0)],
    srH A t fuel (stepS fuel s) s.ends.length (K++.row 8 [.agg [I 2,.sl false (set.map spanAV),.sl false (kids.map reAV),I mn,I mx,I md,I n,.bool neg]] 0::x.2)⟩:St)) (fun x=>x.1<=kids.length) (fun x=>x.1) (kids.length,[]) ?_ (Nat.le_refl _) _ ?_
   ·rintro⟨j,L⟩ hj;simp only at hj |-;rcases j with _|m
    ·have hz0:((0:Nat):Int)-1 = -1:=rfl;rw[hz0,drop_zero];simp +contextual (disch:=omega) only[Tryz.f133,Cm,go_sem,simprocAttr,Cl,↓AD,↓AC,↓AB,↓AA,h161,c1,BN,BK,BP,Bool.not_false,BS,BR,BB,Bm,Bn,Bo,A9,BA,AW,all_append,As,A8,BH,hka,Bs];exact ret b s' _ _
    ·obtain⟨kid,hkid⟩:∃ k,kids[m]?=some k:=⟨_,List.getElem?_eq_getElem (by omega)⟩;have hl8:=AM kid;have ht8:=AU kid;have hok8:=Au kid;have hm1:((m+1:Nat):Int)-1=(m:Int):=by omega
     rw[hm1];have hcp:AV.plainL (I 0::(reC kid++[I 0,I 0]++[goalA (catG next (kids.drop (m+1)))]))=true:=by
      simp[AV.plainL,AV.plain,Bi,AZ,CI]
     have hfz:=fun X=>P9 A K X L t fuel (stepS fuel s) s.ends.length _ hcp;simp +contextual (disch:=omega) only[Tryz.f133,Cm,go_sem,simprocAttr,Cl,↓AD,↓AC,↓AB,↓AA,h161,hkid,hl8,ht8,hok8,Bq,Br,hfz,BN,BK,BP,Bool.not_false,BS,BR,BB,Bm,Bn,Bo,A9,BA,AW,all_append,As,A8,BH,hka,Bs];refine⟨AW _,AW _,(m,L++[.row 12 [.agg (I 0::(reC kid++[I 0,I 0]++[goalA (catG next (kids.drop (m+1)))]))] 1]),by show m<=_;omega,Nat.lt_succ_self _,?_⟩;have hgm:goalA (catG next (kids.drop m))=.pt (I 0::(reC kid++[I 0,I 0]++[goalA (catG next (kids.drop (m+1)))])):=by
      rw[List.drop_eq_getElem_cons (by omega),(List.getElem?_eq_some_iff.1 hkid).2];simp[catG,goalA]
     simp only[hgm];rfl
   ·simp only[List.drop_length,catG];rfl
  ·-- one of some
   rw[if_neg (by omega),if_neg (by omega),if_pos rfl]at he;simp +contextual (disch:=omega) only[Tryz.f133,Cm,go_sem,simprocAttr,Cl,↓AD,↓AC,↓AB,↓AA,h161,BN,BK,BP,Bool.not_false,BS,BR,BB,Bm,Bn,Bo,A9,BA,AW,all_append,As,A8,BH,hka,Bs]
   refine Dk (σ:=Nat×List MB×SS) (M:=⟨some [12,9,3,2,1,0],none,[]⟩) rfl (fun x=>(⟨341,[(12,I (x.1:Nat)),(9,.rf (A.length+(K.length+1+1+1)) 1 0 0),(3,capA c),(2,I i),(1,.pt [I kind,I 3,.sl false (set.map spanAV),.sl false (kids.map reAV),I mn,I mx,I md,I n,.bool neg,I k,I fr,goalA next]),(0,.rf A.length 1 0 0)],
    srH A t fuel x.2.2 x.2.2.ends.length (K++.row 8 [.agg [I 3,.sl false (set.map spanAV),.sl false (kids.map reAV),I mn,I mx,I md,I n,.bool neg]] 0::x.2.1)⟩:St))
    (fun x=>x.1<=kids.length/\altR R next i c (kids.drop x.1) x.2.2=some (b,s')/\SPre fuel x.2.2/\(stepS fuel s).steps<=x.2.2.steps/\(x.2.2.ends.length:Int)+((kids.length-x.1:Nat):Int)<=256*x.2.2.steps) (fun x=>kids.length-x.1) (0,[],stepS fuel s) ?_
    ⟨Nat.zero_le _,he,p1,le_refl _,by simp only;omega⟩ _ ?_
   ·rintro⟨j,L,s1⟩ ⟨hj,he,q1,q2,q3⟩;simp only at hj he q1 q2 q3 |-;by_cases hjl:j<kids.length
    ·obtain⟨kid,hkid⟩:∃ k,kids[j]?=some k:=⟨_,List.getElem?_eq_getElem hjl⟩;have hl8:=AM kid;have ht8:=AU kid;have hok8:=Au kid;have hcp:AV.plainL (I 0::(reC kid++[I 0,I 0]++[goalA next]))=true:=by
      simp[AV.plainL,AV.plain,Bi,AZ,CI]
     have hgm:goalA (.mk 0 kid 0 0 next)=.pt (I 0::(reC kid++[I 0,I 0]++[goalA next])):=by
      simp[goalA]
     have hgk:=h.kids kid (List.mem_of_getElem? hkid);rw[List.drop_eq_getElem_cons hjl,(List.getElem?_eq_some_iff.1 hkid).2,altR]at he;have hgg:GG caps top t.length s1.steps (.mk 0 kid 0 0 next):=⟨hgk,.inl rfl,⟨le_refl _,by omega⟩,hn1.mono q2⟩;have hbox:=fun(X:MB) b' s2 e2=>(Jp A (K++X::L) t fuel s1 s1.ends.length _ i c hcp).trans ((hgm ▸ hR A ((K++X::L)++[MB.row 12 [.agg (I 0::(reC kid++[I 0,I 0]++[goalA next]))] 1]) (.mk 0 kid 0 0 next) i c s1 b' s2 hgg (by omega) (by omega) hc q1 e2));have hka2:∀(X Y:MB),(K++X::L)++[Y]=K++X::(L++[Y]):=fun X Y=>by simp
     simp only[hka2,List.length_append,length_cons]at hbox;unfold orR at he;split at he
     ·cases he
     ·rename_i s2 e2;simp only[Option.some.injEq,Prod.mk.injEq]at he;obtain⟨rfl,rfl⟩:=he;have c1:=fun X=>hbox X _ _ e2;simp +contextual (disch:=omega) only[Tryz.f133,Cm,go_sem,simprocAttr,Cl,↓AD,↓AC,↓AB,↓AA,h161,hkid,hl8,ht8,hok8,Bq,Br,c1,BN,BK,BP,Bool.not_false,BS,BR,BB,Bm,Bn,Bo,A9,BA,AW,all_append,As,A8,BH,hka,Bs];repeat' (first|apply And.intro|(unfold dOk;kernel_rfl)|exact AW next|(show (_&&_)=true;kernel_rfl)|(show (_||_)=true;kernel_rfl)|intro _)
      all_goals exact ret _ _ _ _
     ·rename_i s2 e2;have c1:=fun X=>hbox X _ _ e2;have q:=hP _ _ _ _ _ _ hgg (by omega) (by omega) hc q1 e2;simp +contextual (disch:=omega) only[Tryz.f133,Cm,go_sem,simprocAttr,Cl,↓AD,↓AC,↓AB,↓AA,h161,hkid,hl8,ht8,hok8,Bq,Br,c1,BN,BK,BP,Bool.not_false,BS,BR,BB,Bm,Bn,Bo,A9,BA,AW,all_append,As,A8,BH,hka,Bs];repeat' (first|apply And.intro|(unfold dOk;kernel_rfl)|exact AW next|(show (_&&_)=true;kernel_rfl)|(show (_||_)=true;kernel_rfl)|intro _)
      have qa:=q.el;have qb:=q.st;have qc:=q.fu rfl;have qd:=q1.st;have rp:SPre fuel s2:=⟨q.eb.symm,⟨by omega,qc⟩,q.cl,by omega⟩;have r1:(stepS fuel s).steps<=s2.steps:=by omega
      have r2:(s2.ends.length:Int)+((kids.length-(j+1):Nat):Int)<=256*s2.steps:=by omega
      refine⟨(j+1,L++[MB.row 12 [.agg (I 0::(reC kid++[I 0,I 0]++[goalA next]))] 1],s2),⟨hjl,he,rp,r1,r2⟩,by show kids.length-(j+1)<_;omega,?_⟩;rfl
    ·obtain rfl:j=kids.length:=by omega
     rw[List.drop_length,altR]at he;simp only[Option.some.injEq,Prod.mk.injEq]at he;obtain⟨rfl,rfl⟩:=he;simp +contextual (disch:=omega) only[Tryz.f133,Cm,go_sem,simprocAttr,Cl,↓AD,↓AC,↓AB,↓AA,h161,BN,BK,BP,Bool.not_false,BS,BR,BB,Bm,Bn,Bo,A9,BA,AW,all_append,As,A8,BH,hka,Bs];exact ret false _ _ _
   ·rfl
  ·exact absurd rfl h4
  ·-- a capture
   rw[if_neg (by omega),if_neg (by omega),if_neg (by omega),if_pos rfl]at he;obtain⟨kid,hkid,hgk⟩:=Jo h rfl;simp only[Re.kids]at hkid;subst hkid;simp only at he;have hl8:=AM kid;have ht8:=AU kid;have hok8:=Au kid;have hca:=B5 3 (.mk 5 set [kid] mn mx md n neg) 0 i next
   rw[hG]at hca;have hgm:goalA (.mk 0 kid 0 0 (.mk 3 (.mk 5 set [kid] mn mx md n neg) 0 i next))=.pt (I 0::(reC kid++[I 0,I 0]++[.pt [I 3,I 5,.sl false (set.map spanAV),.sl false ([kid].map reAV),I mn,I mx,I md,I n,.bool neg,I 0,I i,goalA next]])):=by
    simp[goalA,Bh]
   have hgg:GG caps top t.length (stepS fuel s).steps (.mk 0 kid 0 0 (.mk 3 (.mk 5 set [kid] mn mx md n neg) 0 i next)):=⟨hgk,.inl rfl,⟨le_refl _,by omega⟩,h,.inr (.inr (.inr ⟨rfl,rfl⟩)),⟨by omega,by omega⟩,hn1⟩;have c1:=fun X=>(PF A K X t fuel (stepS fuel s) s.ends.length kid _ i c hca).trans (hgm ▸ hR A _ _ i c _ b s' hgg (by omega) (by omega) hc p1 he);simp only[map_cons,map_nil]at c1;simp +contextual (disch:=omega) only[Tryz.f133,Cm,go_sem,simprocAttr,Cl,↓AD,↓AC,↓AB,↓AA,h161,c1,hl8,ht8,hok8,Bq,Br,BN,BK,BP,Bool.not_false,BS,BR,BB,Bm,Bn,Bo,A9,BA,AW,all_append,As,A8,BH,hka,Bs];repeat' (first|apply And.intro|(unfold dOk;kernel_rfl)|exact AW next|(show (_&&_)=true;kernel_rfl)|(show (_||_)=true;kernel_rfl)|intro _)
   all_goals exact ret _ _ _ _
  ·-- an assertion
   rw[if_neg (by omega),if_neg (by omega),if_neg (by omega),if_neg (by omega),if_pos rfl]at he;have hnn:=PI h.good.whole;have h165:=f165 n t i hnn hi (by omega);cases hh:assertI n (befS t i) t[i]? with
   | true=>
     rw[hh,if_pos rfl]at he;rw[hh]at h165;have c1:=fun K'=>hN K' i b s' hi he;simp +contextual (disch:=omega) only[Tryz.f133,Cm,go_sem,simprocAttr,Cl,↓AD,↓AC,↓AB,↓AA,h161,h165,c1,BN,BK,BP,Bool.not_false,BS,BR,BB,Bm,Bn,Bo,A9,BA,AW,all_append,As,A8,BH,hka,Bs];repeat' (first|apply And.intro|(unfold dOk;kernel_rfl)|exact AW next|(show (_&&_)=true;kernel_rfl)|(show (_||_)=true;kernel_rfl)|intro _)
     all_goals exact ret _ _ _ _
   | false=>
     rw[hh,if_neg Bool.false_ne_true]at he;rw[hh]at h165;simp only[Option.some.injEq,Prod.mk.injEq]at he;obtain⟨rfl,rfl⟩:=he;simp +contextual (disch:=omega) only[Tryz.f133,Cm,go_sem,simprocAttr,Cl,↓AD,↓AC,↓AB,↓AA,h161,h165,BN,BK,BP,Bool.not_false,BS,BR,BB,Bm,Bn,Bo,A9,BA,AW,all_append,As,A8,BH,hka,Bs];repeat' (first|apply And.intro|(unfold dOk;kernel_rfl)|exact AW next|(show (_&&_)=true;kernel_rfl)|(show (_||_)=true;kernel_rfl)|intro _)
     all_goals exact ret _ _ _ _
end
section
theorem PJ {H:List MB}{i n z:Nat}{l:List Int}{x:Int}{t:Bool} (hi:getRow H i=some (1,l.map I,z)) (hn:l.length=n) (hz:z<=n) (hr:n+1<=4000000000) :
  evAppend Pg H 22 22 (.ms i 1 n 0 n) (.sl t [I x])=some (.ms i 1 (n+1) 0 (n+1),H.set i (.row 1 ((l++[x]).map I) z)):=by
 have hs:srcElems Pg H 3 (.sl t [I x])=some [I x]:=rfl;rw[B6 (e:=3) (by kernel_rfl) (by kernel_rfl) (k:=1) (by kernel_rfl) (by_:=8) (by kernel_rfl) (ze:=I 0) (by kernel_rfl) rfl (by omega) hs rfl hi (by rw[List.length_map];exact hn) hz (Ad (by simpa using hr) (by omega))];rw[map_append];rfl
theorem Ng {H:List MB}{i n z:Nat}{l:List Caps}{x:Caps}{t:Bool} (hi:getRow H i=some (1,l.map capA,z)) (hn:l.length=n) (hz:z<=n) (hr:n+1<=4000000000) :
  evAppend Pg H 182 182 (.ms i 1 n 0 n) (.sl t [capA x])=some (.ms i 1 (n+1) 0 (n+1),H.set i (.row 1 ((l++[x]).map capA) z)):=by
 have hs:srcElems Pg H 77 (.sl t [capA x])=some [capA x]:=rfl;rw[B6 (e:=77) (by kernel_rfl) (by kernel_rfl) (k:=1) (by kernel_rfl) (by_:=24) (by kernel_rfl) (ze:=.sl true []) (by kernel_rfl) rfl (by omega) hs rfl hi (by rw[List.length_map];exact hn) hz (Ad (by simpa using hr) (by omega))];rw[map_append];rfl
theorem f138 {caps top:Int}{t:List Int}{fuel:Int} (ht:t.length<=65536) (hf:0<=fuel/\fuel<=1000000) (d:Nat) (hR:Run138 caps top t fuel (runG t fuel d)):Run138 caps top t fuel (runG t fuel (d+1)):=by
 intro A K g i c s b s' hg hi0 hi1 hc hs he;have hP:=FO caps top t fuel d;obtain⟨i,rfl⟩:∃ j:Nat,i=j:=⟨i.toNat,by omega⟩;have ret:=fun b s' e' L=>JJ (f:=97) rfl rfl b A K L t fuel s s' s.ends.length e';have ret0:=fun b s' e'=>MP (f:=97) rfl rfl b A K t fuel s s' s.ends.length e';have hnp:ofK (.pointer none)=.nilp:=rfl;have hpg:=CI g;have fr':frzArgs pol1 97 0 [.rf A.length 1 0 0,goalA g,I i,capA c] (srH A t fuel s s.ends.length K)=some ([.rf A.length 1 0 0,goalA g,I i,capA c],srH A t fuel s s.ends.length K):=AL _ _ _ (by
  simp only[mixOk,show pol1.byref 97 0=true from rfl,hpg,AV.plain,AF,Bool.true_or,Bool.or_true,Bool.and_self,Bool.and_true];rfl)
 refine AO (pol:=pol1) Tryz.func97 rfl rfl rfl rfl fr' ?_;have hka:∀ L L':List MB,(K++L)++L' = K++(L++L'):=fun L L'=>append_assoc K L L';have hsl:=hs.el;have hst:=hs.st;cases g with
 | nil=>
   simp only[runG,Option.some.injEq,Prod.mk.injEq]at he;obtain⟨rfl,rfl⟩:=he;have a1:=PJ (H:=srH A t fuel s s.ends.length K) (i:=A.length+1) (n:=s.ends.length) (z:=0) (l:=s.ends) (x:=(i:Int)) (t:=true) (by unfold getRow;rw[OH]) rfl (Nat.zero_le _) (by omega);rw[OF]at a1;have a2:=fun S E=>Ng (H:=A++S::E::.row 1 (s.caps.map capA) 0::K) (i:=A.length+2) (n:=s.ends.length) (z:=0) (l:=s.caps) (x:=c) (t:=true) (by unfold getRow;rw[OG]) hs.cl (Nat.zero_le _) (by omega);simp only[OE]at a2;simp only[goalA];simp +contextual (disch:=omega) only[Tryz.f97,dd97,go_sem,simprocAttr,AV.cells,mu97,↓AD,↓AC,↓AB,↓AA,hnp,evEq,Bs,JO,a1,a2];exact⟨by unfold dOk;kernel_rfl,ret0 false ⟨s.steps,s.empty,s.ends++[(i:Int)],s.caps++[c]⟩ (s.ends.length+1)⟩
 | mk kind re k fr next=>
   obtain⟨g1,g2,g3,g4⟩:=hg;simp only[runG]at he;simp only[goalA];obtain⟨op,set,kids,mn,mx,md,n,neg⟩:=re;have hG:∀ kind k fr next,goalC kind (.mk op set kids mn mx md n neg) k fr next=[I kind,I op,.sl false (set.map spanAV),.sl false (kids.map reAV),I mn,I mx,I md,I n,.bool neg,I k,I fr,goalA next]:=fun kind k fr next=>by
    rw[goalC,Bh];rfl
   rw[show (I kind::(reC (.mk op set kids mn mx md n neg)++[I k,I fr,goalA next]))=_ from hG kind k fr next];rcases g2 with rfl|⟨rfl,g2⟩|⟨rfl,g2⟩|⟨rfl,g2⟩
   ·rw[if_neg (by omega),if_neg (by omega),if_neg (by omega)]at he;have c1:=f154 ht hf hP hR A K 0 _ k fr i next c s b s' g1 (by omega) g4 hc hs he
    rw[hG]at c1;simp +contextual (disch:=omega) only[Tryz.f97,dd97,go_sem,simprocAttr,evAppend,map_append,mu97,↓AD,↓AC,↓AB,↓AA,hnp,evEq,c1];exact ret0 b s' _
   ·rw[if_pos rfl]at he;have c1:=f152 ht hf hP hR A K _ k fr i next c s b s' g1 g2.1 g2.2 ⟨by omega,hi1⟩ g4 hc hs he
    rw[hG]at c1;simp +contextual (disch:=omega) only[Tryz.f97,dd97,go_sem,simprocAttr,evAppend,map_append,mu97,↓AD,↓AC,↓AB,↓AA,hnp,evEq,c1];exact ret0 b s' _
   ·rw[if_neg (by omega),if_pos rfl]at he;have he:(if mn<=k/\(i:Int)=fr then some (false,s) else runG t fuel d (.mk 1 (.mk op set kids mn mx md n neg) (k+1) 0 next) i c s)=some (b,s'):=he;by_cases hm:mn<=k
    ·by_cases hif:(i:Int)=fr
     ·rw[if_pos ⟨hm,hif⟩]at he;simp only[Option.some.injEq,Prod.mk.injEq]at he;obtain⟨rfl,rfl⟩:=he;simp +contextual (disch:=omega) only[Tryz.f97,dd97,go_sem,simprocAttr,evAppend,map_append,mu97,↓AD,↓AC,↓AB,↓AA,hnp,evEq,hif,hm];exact⟨by unfold dOk;kernel_rfl,ret0 false _ _⟩
     ·rw[if_neg (by omega)]at he;have hgg:GG caps top t.length s.steps (.mk 1 (.mk op set kids mn mx md n neg) (k+1) 0 next):=⟨g1,.inr (.inl ⟨rfl,g2.1,by omega,by omega⟩),⟨le_refl _,by omega⟩,g4⟩;have hcp:=B5 1 (.mk op set kids mn mx md n neg) (k+1) 0 next
      have c1:=(Jp A K t fuel s s.ends.length _ i c hcp).trans (hR A (K++[MB.row 12 [.agg (goalC 1 (.mk op set kids mn mx md n neg) (k+1) 0 next)] 1]) _ i c s b s' hgg (by omega) hi1 hc hs he);rw[hG]at c1;have hw:IntKind.i64.wrap (k+1)=k+1:=by rw[i64_in]<;>omega
      simp +contextual (disch:=omega) only[Tryz.f97,dd97,go_sem,simprocAttr,evAppend,map_append,mu97,↓AD,↓AC,↓AB,↓AA,hnp,evEq,hif,hm,hw,c1,BN,BS,BR,BB,Bm,Bn,Bo,A9,BA,AW,all_append];repeat' (first|apply And.intro|(unfold dOk;kernel_rfl)|exact AW next|(show (_&&_)=true;kernel_rfl)|(show (_||_)=true;kernel_rfl)|intro _)
      exact ret b s' _ _
    ·rw[if_neg (by omega)]at he;have hgg:GG caps top t.length s.steps (.mk 1 (.mk op set kids mn mx md n neg) (k+1) 0 next):=⟨g1,.inr (.inl ⟨rfl,g2.1,by omega,by omega⟩),⟨le_refl _,by omega⟩,g4⟩;have hcp:=B5 1 (.mk op set kids mn mx md n neg) (k+1) 0 next
     have c1:=(Jp A K t fuel s s.ends.length _ i c hcp).trans (hR A (K++[MB.row 12 [.agg (goalC 1 (.mk op set kids mn mx md n neg) (k+1) 0 next)] 1]) _ i c s b s' hgg (by omega) hi1 hc hs he);rw[hG]at c1;have hw:IntKind.i64.wrap (k+1)=k+1:=by rw[i64_in]<;>omega
     simp +contextual (disch:=omega) only[Tryz.f97,dd97,go_sem,simprocAttr,evAppend,map_append,mu97,↓AD,↓AC,↓AB,↓AA,hnp,evEq,hm,hw,c1,BN,BS,BR,BB,Bm,Bn,Bo,A9,BA,AW,all_append];repeat' (first|apply And.intro|(unfold dOk;kernel_rfl)|exact AW next|(show (_&&_)=true;kernel_rfl)|(show (_||_)=true;kernel_rfl)|intro _)
     exact ret b s' _ _
   ·rw[if_neg (by omega),if_neg (by omega),if_pos rfl]at he;have h153:=f153 c n fr i (by omega);have c1:=fun K'=>hR A K' next i _ s b s' g4 (by omega) hi1 (by rw[Gb];exact hc) hs he
    simp only[Re.n]at c1;simp +contextual (disch:=omega) only[Tryz.f97,dd97,go_sem,simprocAttr,evAppend,map_append,mu97,↓AD,↓AC,↓AB,↓AA,hnp,evEq,h153,c1];exact⟨by unfold dOk;kernel_rfl,by show (_||_)=true;kernel_rfl,ret0 b s' _⟩
theorem N4 {caps top:Int}{t:List Int}{fuel:Int} (ht:t.length<=65536) (hf:0<=fuel/\fuel<=1000000):∀ d,Run138 caps top t fuel (runG t fuel d)
 | 0=>fun A K g i c s b s' _ _ _ _ _ e=>by cases g<;>simp[runG]at e
 | d+1=>f138 ht hf d (N4 ht hf d)
end
def repO (f:Nat->List Nat) (mn mx md:Int):Nat->Int->Nat->List Nat
 | 0,_,_=>[]
 | n+1,k,i=>
   if k<mn then(f i).flatMap (repO f mn mx md n (k+1))
   else if md=1 then i::(if mx = -1∨k<mx then(f i).flatMap (repO f mn mx md n (k+1)) else [])
   else(if mx = -1∨k<mx then(f i).flatMap (repO f mn mx md n (k+1)) else [])++[i]
def repC (f:Nat->List Nat) (g:Nat->Nat) (mn mx:Int):Nat->Int->Nat->Nat
 | 0,_,_=>0
 | n+1,k,i=>1+(if k<mn∨mx = -1∨k<mx then g i+((f i).map (repC f g mn mx n (k+1))).sum else 0)
mutual
def outs (t:List Int):Re->Nat->List Nat
 | .mk op set kids mn mx md n neg,i=>
   if op=1 then(match t[i]? with
    | some x=>if hasSpan set x=true then [i+1] else []
    | none=>[])
   else if op=2 then outsC t kids i
   else if op=3 then outsA t kids i
   else if op=4 then repO (outsH t kids) mn mx md (t.length+1-i) 0 i
   else if op=5 then outsH t kids i
   else if op=11 then(if assertI n (befS t i) t[i]?=true then [i] else [])
   else [i]
def outsC (t:List Int):List Re->Nat->List Nat
 | [],i=>[i]
 | k::ks,i=>(outs t k i).flatMap (outsC t ks)
def outsA (t:List Int):List Re->Nat->List Nat
 | [],_=>[]
 | k::ks,i=>outs t k i++outsA t ks i
def outsH (t:List Int):List Re->Nat->List Nat
 | [],_=>[]
 | k::_,i=>outs t k i
end
mutual
def costR (t:List Int):Re->Nat->Nat
 | .mk op set kids mn mx md n neg,i=>
   if op=2 then 1+costRC t kids i
   else if op=3 then 1+costRA t kids i
   else if op=4 then repC (outsH t kids) (costRH t kids) mn mx (t.length+1-i) 0 i
   else if op=5 then 1+costRH t kids i
   else 1
def costRC (t:List Int):List Re->Nat->Nat
 | [],_=>0
 | k::ks,i=>costR t k i+((outs t k i).map (costRC t ks)).sum
def costRA (t:List Int):List Re->Nat->Nat
 | [],_=>0
 | k::ks,i=>costR t k i+costRA t ks i
def costRH (t:List Int):List Re->Nat->Nat
 | [],_=>0
 | k::_,i=>costR t k i
end
theorem JM {f:Nat->List Nat}{mn mx md:Int}{L:Nat} (hf:∀ i,i<=L->∀ j∈f i,i<=j/\j<=L):∀(n:Nat) (k:Int) (i:Nat),i<=L->∀ j∈repO f mn mx md n k i,i<=j/\j<=L
 | 0,_,_,_,j,h=>by simp[repO]at h
 | n+1,k,i,hi,j,h=>by
   have A:∀ j∈(f i).flatMap (repO f mn mx md n (k+1)),i<=j/\j<=L:=fun j h=>by
    obtain⟨m,hm,h⟩:=mem_flatMap.1 h;have h1:=hf i hi m hm;have h2:=JM hf n (k+1) m h1.2 j h;omega
   rw[repO]at h;split at h
   ·exact A j h
   ·split at h
    ·rcases List.mem_cons.1 h with rfl|h
     ·exact⟨Nat.le_refl _,hi⟩
     ·split at h
      ·exact A j h
      ·simp at h
    ·rcases mem_append.1 h with h|h
     ·split at h
      ·exact A j h
      ·simp at h
     ·rw[mem_singleton.1 h];exact⟨Nat.le_refl _,hi⟩
mutual
theorem CG (t:List Int):∀(r:Re) (i:Nat),i<=t.length->∀ j∈outs t r i,i<=j/\j<=t.length
 | .mk op set kids mn mx md n neg,i,hi,j,h=>by
   have hC:=Gx t kids;have hA:=KS t kids;have hH:=KR t kids;rw[outs]at h;split at h
   ·split at h
    ·rename_i x hx;have:=(List.getElem?_eq_some_iff.1 hx).1;split at h
     ·rw[mem_singleton.1 h];omega
     ·simp at h
    ·simp at h
   ·split at h
    ·exact hC i hi j h
    ·split at h
     ·exact hA i hi j h
     ·split at h
      ·exact JM hH _ _ i hi j h
      ·split at h
       ·exact hH i hi j h
       ·split at h
        ·split at h
         ·rw[mem_singleton.1 h];omega
         ·simp at h
        ·rw[mem_singleton.1 h];omega
theorem Gx (t:List Int):∀(l:List Re) (i:Nat),i<=t.length->∀ j∈outsC t l i,i<=j/\j<=t.length
 | [],i,hi,j,h=>by rw[outsC,mem_singleton]at h;omega
 | k::ks,i,hi,j,h=>by
   rw[outsC]at h;obtain⟨m,hm,h⟩:=mem_flatMap.1 h;have h1:=CG t k i hi m hm;have h2:=Gx t ks m h1.2 j h;omega
theorem KS (t:List Int):∀(l:List Re) (i:Nat),i<=t.length->∀ j∈outsA t l i,i<=j/\j<=t.length
 | [],i,hi,j,h=>by simp[outsA]at h
 | k::ks,i,hi,j,h=>by
   rw[outsA]at h;rcases mem_append.1 h with h|h
   ·exact CG t k i hi j h
   ·exact KS t ks i hi j h
theorem KR (t:List Int):∀(l:List Re) (i:Nat),i<=t.length->∀ j∈outsH t l i,i<=j/\j<=t.length
 | [],i,hi,j,h=>by simp[outsH]at h
 | k::ks,i,hi,j,h=>by
   rw[outsH]at h;exact CG t k i hi j h
end
theorem OA {f:Nat->List Nat}{mn mx md:Int}{L:Nat} (hf:∀ i,i<=L->∀ j∈f i,i<j/\j<=L) (hm:0<mn):∀(n:Nat) (i:Nat),i<=L->∀ j∈repO f mn mx md n 0 i,i<j
 | 0,_,_,j,h=>by simp[repO]at h
 | n+1,i,hi,j,h=>by
   rw[repO,if_pos hm]at h;obtain⟨m,hm',h⟩:=mem_flatMap.1 h;have h1:=hf i hi m hm';have h2:=JM (fun i hi j hj=>⟨Nat.le_of_lt (hf i hi j hj).1,(hf i hi j hj).2⟩) n _ m h1.2 j h;omega
mutual
theorem DU (t:List Int):∀(r:Re) (i:Nat),nullG r=false->codable r=true->i<=t.length->∀ j∈outs t r i,i<j
 | .mk op set kids mn mx md n neg,i,hn,hc,hi,j,h=>by
   have hC:=IV t kids;have hA:=IW t kids;have hH:=NB t kids;rw[codable,and_eq_true,Bool.or_eq_true,decide_eq_true_eq,beq_iff_eq]at hc;rw[nullG]at hn;rw[outs]at h;split at h
   ·split at h
    ·split at h
     ·rw[mem_singleton.1 h];omega
     ·simp at h
    ·simp at h
   ·rename_i h1;rw[if_neg h1]at hn;split at h
    ·rename_i h2;rw[if_pos h2]at hn;exact hC i hn hc.2 hi j h
    ·rename_i h2;rw[if_neg h2]at hn;split at h
     ·rename_i h3;rw[if_pos (.inl h3)]at hn;exact hA i hn hc.2 hi j h
     ·rename_i h3;rw[if_neg (by omega)]at hn;split at h
      ·rename_i h4;rw[if_pos h4,Bool.or_eq_false_iff,decide_eq_false_iff_not]at hn;refine OA (L:=t.length) ?_ (by omega) _ i hi j h;intro i hi j hj;exact⟨hH i hn.2 hc.2 hi j hj,(KR t kids i hi j hj).2⟩
      ·rename_i h4;rw[if_neg h4]at hn;split at h
       ·rename_i h5;rw[if_pos (.inl h5)]at hn;exact hH i hn hc.2 hi j h
       ·rename_i h5;rw[if_neg (by omega)]at hn;cases hn
theorem IV (t:List Int):∀(l:List Re) (i:Nat),nullAll l=false->codableL l=true->i<=t.length->∀ j∈outsC t l i,i<j
 | [],i,hn,_,hi,j,h=>by simp[nullAll]at hn
 | k::ks,i,hn,hc,hi,j,h=>by
   rw[codableL,and_eq_true]at hc;rw[nullAll,Bool.and_eq_false_iff]at hn;rw[outsC]at h;obtain⟨m,hm,h⟩:=mem_flatMap.1 h;have h1:=CG t k i hi m hm;have h2:=Gx t ks m h1.2 j h;rcases hn with hn|hn
   ·have:=DU t k i hn hc.1 hi m hm;omega
   ·have:=IV t ks m hn hc.2 h1.2 j h;omega
theorem IW (t:List Int):∀(l:List Re) (i:Nat),nullAny l=false->codableL l=true->i<=t.length->∀ j∈outsA t l i,i<j
 | [],i,hn,_,hi,j,h=>by simp[outsA]at h
 | k::ks,i,hn,hc,hi,j,h=>by
   rw[codableL,and_eq_true]at hc;rw[nullAny,Bool.or_eq_false_iff]at hn;rw[outsA]at h;rcases mem_append.1 h with h|h
   ·exact DU t k i hn.1 hc.1 hi j h
   ·exact IW t ks i hn.2 hc.2 hi j h
theorem NB (t:List Int):∀(l:List Re) (i:Nat),nullHd l=false->codableL l=true->i<=t.length->∀ j∈outsH t l i,i<j
 | [],i,hn,_,hi,j,h=>by simp[outsH]at h
 | k::ks,i,hn,hc,hi,j,h=>by
   rw[codableL,and_eq_true]at hc;rw[nullHd]at hn;rw[outsH]at h;exact DU t k i hn hc.1 hi j h
end
def RLe (R R':RunT):Prop:=∀ g i c s x,R g i c s=some x->R' g i c s=some x
theorem Gz {a a':Option (Bool×SS)}{f f':SS->Option (Bool×SS)} {x} (h1:∀ y,a=some y->a' = some y) (h2:∀ s y,f s=some y->f' s=some y) (h:orR a f=some x):orR a' f' = some x:=by
 unfold orR at h |-;cases ha:a with
 | none=>rw[ha]at h;cases h
 | some q=>
   rw[ha]at h;rw[h1 _ ha];obtain⟨b,s⟩:=q;cases b with
   | true=>exact h
   | false=>exact h2 _ _ h
theorem IT {fuel:Int}{R R':RunT} (h:RLe R R') {re:Re}{k:Int}{next:Goal}{i:Int}{c:Caps}{s:SS} {x} (he:repR fuel R re k next i c s=some x):repR fuel R' re k next i c s=some x:=by
 unfold repR at he |-;simp only at he |-;by_cases h1:(stepS fuel s).empty=true
 ·rw[if_pos h1]at he |-;exact he
 ·rw[if_neg h1]at he |-;cases hk:re.kids with
  | nil=>rw[hk]at he;cases he
  | cons kid ks=>
    rw[hk]at he;simp only at he |-;by_cases h2:k<re.mn
    ·rw[if_pos h2]at he |-;exact h _ _ _ _ _ he
    ·rw[if_neg h2]at he |-;by_cases h3:re.md=1
     ·rw[if_pos h3]at he |-;refine Gz (fun y e=>h _ _ _ _ _ e) (fun s2 y e=>?_) he;split at e<;>split
      ·exact h _ _ _ _ _ e
      ·contradiction
      ·contradiction
      ·exact e
     ·rw[if_neg h3]at he |-;refine Gz (fun y e=>?_) (fun s2 y e=>h _ _ _ _ _ e) he;split at e<;>split
      ·exact h _ _ _ _ _ e
      ·contradiction
      ·contradiction
      ·exact e
theorem Fq {R R':RunT} (h:RLe R R') {next:Goal}{i:Int}{c:Caps}:∀ {l:List Re}{s:SS} {x},altR R next i c l s=some x->altR R' next i c l s=some x
 | [],s,x,he=>he
 | k::ks,s,x,he=>by
   simp only[altR]at he |-;exact Gz (fun y e=>h _ _ _ _ _ e) (fun s2 y e=>Fq h e) he
theorem Ll {t:List Int}{fuel:Int}{R R':RunT} (h:RLe R R') {re:Re}{next:Goal}{i:Int}{c:Caps}{s:SS} {x} (he:nodeR t fuel R re next i c s=some x):nodeR t fuel R' re next i c s=some x:=by
 unfold nodeR at he |-;by_cases h4:re.op=4
 ·rw[if_pos h4]at he |-;exact IT h he
 ·rw[if_neg h4]at he |-;simp only at he |-;by_cases h1:(stepS fuel s).empty=true
  ·rw[if_pos h1]at he |-;exact he
  ·rw[if_neg h1]at he |-;by_cases a1:re.op=1
   ·rw[if_pos a1]at he |-;cases hx:t[i.toNat]? with
    | none=>rw[hx]at he;exact he
    | some y=>
      rw[hx]at he;simp only at he |-;by_cases hh:hasSpan re.set y=true
      ·rw[if_pos hh]at he |-;exact h _ _ _ _ _ he
      ·rw[if_neg hh]at he |-;exact he
   ·rw[if_neg a1]at he |-;by_cases a2:re.op=2
    ·rw[if_pos a2]at he |-;exact h _ _ _ _ _ he
    ·rw[if_neg a2]at he |-;by_cases a3:re.op=3
     ·rw[if_pos a3]at he |-;exact Fq h he
     ·rw[if_neg a3]at he |-;by_cases a5:re.op=5
      ·rw[if_pos a5]at he |-;cases hk:re.kids with
       | nil=>rw[hk]at he;cases he
       | cons kid ks=>rw[hk]at he;exact h _ _ _ _ _ he
      ·rw[if_neg a5]at he |-;by_cases a11:re.op=11
       ·rw[if_pos a11]at he |-;by_cases hh:assertI re.n (befS t i.toNat) t[i.toNat]?=true
        ·rw[if_pos hh]at he |-;exact h _ _ _ _ _ he
        ·rw[if_neg hh]at he |-;exact he
       ·rw[if_neg a11]at he |-;exact h _ _ _ _ _ he
theorem IP (t:List Int) (fuel:Int):∀ d,RLe (runG t fuel d) (runG t fuel (d+1))
 | 0=>fun g i c s x h=>by cases g<;>simp[runG]at h
 | d+1=>fun g i c s x h=>by
   have ih:=IP t fuel d;cases g with
   | nil=>simpa [runG] using h
   | mk kind re k fr next=>
     rw[runG]at h |-;by_cases k1:kind=1
     ·rw[if_pos k1]at h |-;exact IT ih h
     ·rw[if_neg k1]at h |-;by_cases k2:kind=2
      ·rw[if_pos k2]at h |-;by_cases hc:re.mn<=k/\i=fr
       ·rw[if_pos hc]at h |-;exact h
       ·rw[if_neg hc]at h |-;exact ih _ _ _ _ _ h
      ·rw[if_neg k2]at h |-;by_cases k3:kind=3
       ·rw[if_pos k3]at h |-;exact ih _ _ _ _ _ h
       ·rw[if_neg k3]at h |-;exact Ll ih h
theorem GQ (t:List Int) (fuel:Int) {d d':Nat} (h:d<=d'):RLe (runG t fuel d) (runG t fuel d'):=by
 induction h with
 | refl=>exact fun _ _ _ _ _ h=>h
 | step h ih=>exact fun g i c s x e=>IP t fuel _ g i c s x (ih g i c s x e)
variable (caps top:Int) (t:List Int) (fuel:Int)
def RT (g:Goal) (i n:Nat):Prop:=∀(c:Caps) (s:SS),GG caps top t.length s.steps g->c.length<=1000->SPre fuel s ->
 ∃ d b s',runG t fuel d g i c s=some (b,s')/\SPost fuel s b s'/\(b=false->s'.steps=s.steps+n)
variable {caps top:Int}{t:List Int}{fuel:Int}
theorem RT.of {g:Goal}{i n:Nat} (hi:i<=t.length) (h:∀(c:Caps) (s:SS),GG caps top t.length s.steps g->c.length<=1000->SPre fuel s->∃ d b s',runG t fuel d g i c s=some (b,s')/\(b=false->s'.steps=s.steps+n)):RT caps top t fuel g i n:=
 fun c s hg hc hs=>by
  obtain⟨d,b,s',h1,h2⟩:=h c s hg hc hs;exact⟨d,b,s',h1,FO caps top t fuel d g i c s b s' hg (by omega) (by omega) hc hs h1,h2⟩
theorem RT.nil {i:Nat} (hi:i<=t.length):RT caps top t fuel .nil i 0:=RT.of hi fun c s _ _ hs=>⟨1,false,_,rfl,fun _=>by simp⟩
theorem DA {α:Type} (l:List α) (f:α->List Nat) (κ:Nat->Nat):((l.flatMap f).map κ).sum=(l.map fun j=>((f j).map κ).sum).sum:=by
 induction l with
 | nil=>rfl
 | cons a l ih=>simp[ih]
theorem GO {α:Type} (l:List α) (f g:α->Nat):(l.map fun j=>f j+g j).sum=(l.map f).sum+(l.map g).sum:=by
 induction l with
 | nil=>rfl
 | cons a l ih=>simp[ih];omega
end Go.Ev
