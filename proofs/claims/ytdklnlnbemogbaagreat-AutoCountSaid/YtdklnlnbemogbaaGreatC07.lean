/- Evaluation without fuel: the limit of evaluation with ever more of it. -/
import Derived.Test.YtdklnlnbemogbaaGreatC06
import Derived.IntWalk
import Derived.Attr
set_option linter.unusedVariables false
set_option linter.unusedSimpArgs false
namespace Go.Ev
open Go.RowKit
variable {P:Program}{pol:Pol}{cf cf':CF}{it:It}{mu:List Nat}{m:Cfg}
theorem iterN_mono {b b':St→Option (EX×St)} (h:∀ s r,b s=some r→b' s=some r) (m:Msk):∀(n n':Nat) (s:St) (r:EX×St),n≤n'→iterN b m n s=some r→iterN b' m n' s=some r
 | 0,n',s,r,_,h1=>by simp[iterN]at h1
 | n+1,0,s,r,hn,_=>by omega
 | n+1,n' + 1,s,r,hn,h1=>by
   simp only[iterN]at h1 ⊢
   cases hb:b (prep m s) with
   | none=>rw[hb]at h1;simp at h1
   | some q=>
     rw[hb]at h1
     rw[h _ _ hb]
     obtain⟨e,s'⟩:=q
     cases e with
     | norm=>exact iterN_mono h m n n' s' r (by omega) h1
     | exit id=>exact h1
     | ret=>exact h1
open Classical in
noncomputable def itL:It:=fun b m s=>if h:∃ r,∃ n,iterN b m n s=some r then some h.choose else none
theorem itL_some {b:St→Option (EX×St)}{m:Msk}{s:St}{r:EX×St}:itL b m s=some r↔∃ n,iterN b m n s=some r:=by
 unfold itL
 constructor
 ·intro h
  split at h
  ·rename_i hx
   simp at h;subst h
   exact hx.choose_spec
  ·simp at h
 ·rintro⟨n,hn⟩
  rw[dif_pos ⟨r,n,hn⟩]
  obtain⟨n',hn'⟩:=(show ∃ r,∃ n,iterN b m n s=some r from⟨r,n,hn⟩).choose_spec
  have h1:=iterN_mono (b:=b) (fun _ _ h=>h) m n (n+n') s r (by omega) hn
  have h2:=iterN_mono (b:=b) (fun _ _ h=>h) m n' (n+n') s _ (by omega) hn'
  rw[h1]at h2
  exact h2.symm
theorem itL_ok:ItOk itL:=fun _ _ _ _ h=>itL_some.1 h
theorem itL_eq (b:St→Option (EX×St)) (m:Msk) (s:St):itL b m s=match b (prep m s) with
  | some (.norm,s')=>itL b m s'
  | r=>r:=by
 apply Option.ext
 intro r
 rw[itL_some]
 cases hb:b (prep m s) with
 | none=>
   simp only[]
   constructor
   ·rintro⟨n,hn⟩
    cases n with
    | zero=>simp[iterN]at hn
    | succ n=>simp[iterN,hb]at hn
   ·intro h;simp at h
 | some q=>
   obtain⟨e,s'⟩:=q
   cases e with
   | norm=>
     simp only[]
     rw[itL_some]
     constructor
     ·rintro⟨n,hn⟩
      cases n with
      | zero=>simp[iterN]at hn
      | succ n=>exact⟨n,by simpa [iterN,hb] using hn⟩
     ·rintro⟨n,hn⟩
      exact⟨n+1,by simpa [iterN,hb] using hn⟩
   | exit id=>
     constructor
     ·rintro⟨n,hn⟩
      cases n with
      | zero=>simp[iterN]at hn
      | succ n=>simpa [iterN,hb] using hn
     ·intro h;exact⟨1,by simpa [iterN,hb] using h⟩
   | ret=>
     constructor
     ·rintro⟨n,hn⟩
      cases n with
      | zero=>simp[iterN]at hn
      | succ n=>simpa [iterN,hb] using hn
     ·intro h;exact⟨1,by simpa [iterN,hb] using h⟩
def CLe (cf cf':CF):Prop:=∀ f args H r,cf f args H=some r→cf' f args H=some r
def ItLe (it it':It):Prop:=∀ b b' m s r,(∀ s r,b s=some r→b' s=some r)→it b m s=some r→it' b' m s=some r
theorem itL_le:ItLe itL itL:=fun b b' m s r h h1=>by
 rw[itL_some]at h1 ⊢
 obtain⟨n,hn⟩:=h1
 exact⟨n,iterN_mono h m n n s r (Nat.le_refl _) hn⟩
theorem itN_le (n:Nat):ItLe (fun b m s=>iterN b m n s) itL:=fun b b' m s r h h1=>itL_some.2 ⟨n,iterN_mono h m n n s r (Nat.le_refl _) h1⟩
theorem cfn_mono (h:CLe cf cf') {g:Nat}{args:List AV}{H:List MB}{r:AV×List MB} (h1:cfn cf g args H=some r):cfn cf' g args H=some r:=by
 unfold cfn at h1 ⊢
 split at h1
 ·cases h1
 ·rename_i hg
  rw[if_neg hg];exact h _ _ _ _ h1
theorem evAlone_mono (h:CLe cf cf'):CLe (evAlone cf) (evAlone cf'):=by
 intro f args H r h1
 unfold evAlone at h1 ⊢
 split at h1
 ·rename_i hu
  split at h1
  ·rename_i r0 h0
   rw[if_pos hu,h _ _ _ _ h0]
   exact h1
  ·cases h1
 ·cases h1
theorem evThaw_mono (h:CLe cf cf'):CLe (evThaw cf) (evThaw cf'):=by
 intro f args H r h1
 unfold evThaw at h1 ⊢
 split at h1
 ·rename_i as ha
  split at h1
  ·rename_i r0 K h0
   rw[h _ _ _ _ h0]
   exact h1
  ·cases h1
 ·cases h1
theorem evOp_mono (h:CLe cf cf') {ρ:Operand→AV}{H:List MB}{o:Oper}{r:AV×List MB} (h1:evOp P cf mu ρ H o=some r):evOp P cf' mu ρ H o=some r:=by
 obtain⟨dst,op,type,pos,after,guard⟩:=o
 cases op
 case makeFunc fn first cap=>cases fn<;>exact h1
 case call c=>
  obtain⟨callee,args,ats⟩:=c
  cases callee with
  | builtin b=>exact h1
  | invoke x y=>exact h1
  | value f=>
    have key:∀ {c1 c2:CF},CLe c1 c2→evCall c1 ρ H type ⟨.value f,args,ats⟩=some r→evCall c2 ρ H type ⟨.value f,args,ats⟩=some r:=by
     intro c1 c2 h h1
     simp only[evCall]at h1 ⊢
     split at h1
     ·exact cfn_mono h h1
     ·exact cfn_mono h h1
     ·exact h _ _ _ _ h1
     ·simp at h1
    simp only[evOp]at h1 ⊢
    split at h1
    ·rename_i hi
     rw[if_pos hi]
     exact key (evAlone_mono h) h1
    ·rename_i hi
     rw[if_neg hi]
     split at h1
     ·rename_i hj
      rw[if_pos hj]
      exact key (evThaw_mono h) h1
     ·rename_i hj
      rw[if_neg hj]
      exact key h h1
 all_goals exact h1
theorem evOne_mono (h:CLe cf cf') {ops:List Oper}{o:Oper}{s s':St} (h1:evOne P cf mu ops o s=some s'):evOne P cf' mu ops o s=some s':=by
 unfold evOne at h1 ⊢
 split at h1
 ·split at h1
  ·rename_i v H hop
   simp only[evOp_mono h hop]
   exact h1
  ·simp at h1
 ·exact h1
 ·simp at h1
theorem evOps_mono (h:CLe cf cf') {ops:List Oper}:∀(l:List Oper) {s s':St},evOps P cf mu ops l s=some s'→evOps P cf' mu ops l s=some s'
 | [],s,s',h1=>h1
 | o::l,s,s',h1=>by
   simp only[evOps]at h1 ⊢
   split at h1
   ·rename_i s1 hs
    rw[evOne_mono h hs]
    exact evOps_mono h l h1
   ·simp at h1
theorem evOpsD_mono (h:CLe cf cf') {ops:List Oper}:∀(l:List Oper) (i:Nat) {s:St}{r:List (Nat×FP)×St},evOpsD P cf mu ops i l s=some r→evOpsD P cf' mu ops i l s=some r
 | [],i,s,r,h1=>h1
 | o::l,i,s,r,h1=>by
   simp only[evOpsD]at h1 ⊢
   split at h1
   ·rename_i b hb
    split at h1
    ·rename_i s1 hs
     rw[evOne_mono h hs]
     simp only[]
     split at h1
     ·rename_i fl s2 h2
      rw[evOpsD_mono h l (i+1) h2]
      exact h1
     ·simp at h1
    ·simp at h1
   ·simp at h1
theorem evOpsI_mono (h:CLe cf cf') {ops:List Oper}:∀(l:List Nat) {s:St}{r:List (Nat×FP)×St},evOpsI P cf mu ops l s=some r→evOpsI P cf' mu ops l s=some r
 | [],s,r,h1=>h1
 | i::l,s,r,h1=>by
   simp only[evOpsI]at h1 ⊢
   split at h1
   ·simp at h1
   ·rename_i o ho
    split at h1
    ·rename_i b hb
     split at h1
     ·rename_i s1 hs
      rw[evOne_mono h hs]
      simp only[]
      split at h1
      ·rename_i fl s2 h2
       rw[evOpsI_mono h l h2]
       exact h1
      ·simp at h1
     ·simp at h1
    ·simp at h1
theorem evRegion_mono (h:CLe cf cf') {ops:Array Oper}{al:Option (Nat×Nat×List Nat)}{d:Bool}{s s':St} (h1:evRegion P cf mu ops al d s=some s'):evRegion P cf' mu ops al d s=some s':=by
 unfold evRegion at h1 ⊢
 split at h1
 ·rename_i hd
  rw[if_pos hd]
  split at h1
  ·split at h1
   ·rename_i fl s1 h2
    rw[evOpsD_mono h _ _ h2]
    exact h1
   ·simp at h1
  ·split at h1
   ·rename_i fl s1 h2
    rw[evOpsD_mono h _ _ h2]
    simp only[]
    split at h1
    ·rename_i fl2 s2 h3
     rw[evOpsI_mono h _ h3]
     exact h1
    ·simp at h1
   ·simp at h1
 ·rename_i hd
  rw[if_neg hd]
  exact evOps_mono h _ h1
theorem evCode_mono (h:CLe cf cf') {it it':It} (hi:ItLe it it'):∀(c:Code) {s:St}{r:EX×St},evCode P cf it mu m c s=some r→evCode P cf' it' mu m c s=some r
 | .skip,s,r,h1=>h1
 | .label _,s,r,h1=>h1
 | .region _ ops d,s,r,h1=>by
   simp only[evCode]at h1 ⊢
   cases hr:evRegion P cf mu ops (m.al _) d s with
   | none=>rw[hr]at h1;simp at h1
   | some s1=>rw[hr]at h1;rw[evRegion_mono h hr];exact h1
 | .seq a b,s,r,h1=>by
   simp only[evCode]at h1 ⊢
   cases ha:evCode P cf it mu m a s with
   | none=>rw[ha]at h1;simp at h1
   | some q=>
     rw[ha]at h1
     rw[evCode_mono h hi a ha]
     obtain⟨e,s1⟩:=q
     cases e with
     | norm=>exact evCode_mono h hi b h1
     | exit id=>exact h1
     | ret=>exact h1
 | .cond c x y,s,r,h1=>by
   simp only[evCode]at h1 ⊢
   split at h1
   ·exact evCode_mono h hi x h1
   ·exact evCode_mono h hi y h1
   ·simp at h1
 | .block id b,s,r,h1=>by
   simp only[evCode]at h1 ⊢
   cases hb:evCode P cf it mu m b s with
   | none=>rw[hb]at h1;simp at h1
   | some q=>
     rw[hb]at h1
     rw[evCode_mono h hi b hb]
     exact h1
 | .loop b,s,r,h1=>by
   simp only[evCode]at h1 ⊢
   exact hi _ _ _ _ _ (fun s r hh=>evCode_mono h hi b hh) h1
 | .scope b,s,r,h1=>by
   simp only[evCode]at h1 ⊢
   exact evCode_mono h hi b h1
 | .exit _,s,r,h1=>h1
 | .ret,s,r,h1=>h1
 | .rangeFunc _ _ _ b,s,r,h1=>by
   simp only[evCode]at h1 ⊢
   split at h1
   ·rename_i f hh cs hmf hg
    split at h1
    ·rename_i v H' hc
     rw[cfn_mono h hc];exact h1
    ·cases h1
   ·cases h1
 | .goto _,s,r,h1=>by simp[evCode]at h1
 | .refuse _,s,r,h1=>by simp[evCode]at h1
theorem evBody_mono (h:CLe cf cf') {it it':It} (hi:ItLe it it'):CLe (evBody P pol cf it) (evBody P pol cf' it'):=by
 intro f args H r h1
 unfold evBody at h1 ⊢
 split at h1
 ·exact h1
 ·split at h1
  ·simp at h1
  ·rename_i fn hfn
   split at h1
   ·simp at h1
   ·rename_i c hc
    split at h1
    ·simp at h1
    ·rename_i hn
     rw[if_neg hn]
     split at h1
     ·simp at h1
     ·rename_i as H1 hz
      cases hev:evCode P cf it (pol.muts f) (cfgOf pol f H1.length) c { n:=as.length+(fn.ntmps-as.length),t:=initT 0 as [],h:=H1 } with
      | none=>rw[hev]at h1;simp at h1
      | some q=>
        rw[hev]at h1
        rw[evCode_mono h hi c hev]
        exact h1
theorem evYield_mono (h:CLe cf cf') {it it':It} (hi:ItLe it it') {args:List AV}{H:List MB}{r:AV×List MB} (h1:evYield P pol cf it args H=some r):evYield P pol cf' it' args H=some r:=by
 unfold evYield at h1 ⊢
 split at h1
 ·split at h1
  ·rename_i hm
   split at h1
   ·rename_i s hb
    split at h1
    ·rename_i s1 hasg
     rw[evCode_mono h hi _ hasg]
     simp only[]
     split at h1
     ·rename_i s2 hbeg
      split at h1
      ·rename_i e s' hev
       rw[evCode_mono h hi _ hev];exact h1
      ·cases h1
     ·cases h1
    ·cases h1
   ·cases h1
  ·cases h1
 ·cases h1
theorem evStep_mono (h:CLe cf cf') {it it':It} (hi:ItLe it it'):CLe (evStep P pol cf it) (evStep P pol cf' it'):=by
 intro f args H r h1
 unfold evStep at h1 ⊢
 split at h1
 ·rename_i hp
  rw[if_pos hp]
  split at h1
  ·rename_i as H1 hz
   split at h1
   ·rename_i hu
    rw[if_pos hu]
    cases hb:evBody P pol cf it f as [] with
    | none=>rw[hb]at h1;simp[rebase]at h1
    | some q=>
      rw[hb]at h1
      rw[evBody_mono h hi f as [] q hb];exact h1
   ·simp at h1
  ·simp at h1
 ·rename_i hp
  rw[if_neg hp]
  split at h1
  ·rename_i hy
   rw[if_pos hy];exact evYield_mono h hi h1
  ·rename_i hy
   rw[if_neg hy];exact evBody_mono h hi f args H r h1
noncomputable def cL (P:Program) (pol:Pol):Nat→CF
 | 0=>fun _ _ _=>none
 | k+1=>evStep P pol (cL P pol k) itL
theorem cL_step (k:Nat):CLe (cL P pol k) (cL P pol (k+1)):=by
 induction k with
 | zero=>intro f args H r h;simp[cL]at h
 | succ k ih=>exact evStep_mono ih itL_le
theorem cL_mono {k k':Nat} (h:k≤k'):CLe (cL P pol k) (cL P pol k'):=by
 induction h with
 | refl=>exact fun _ _ _ _ h=>h
 | step _ ih=>exact fun f a H r h=>cL_step _ f a H r (ih f a H r h)
open Classical in
noncomputable def call (P:Program) (pol:Pol):CF:=fun f args H=>if h:∃ r,∃ k,cL P pol k f args H=some r then some h.choose else none
theorem call_some {f:Nat}{args:List AV}{H:List MB}{r:AV×List MB}:call P pol f args H=some r↔∃ k,cL P pol k f args H=some r:=by
 unfold call
 constructor
 ·intro h
  split at h
  ·rename_i hx
   simp at h;subst h
   exact hx.choose_spec
  ·simp at h
 ·rintro⟨k,hk⟩
  rw[dif_pos ⟨r,k,hk⟩]
  obtain⟨k',hk'⟩:=(show ∃ r,∃ k,cL P pol k f args H=some r from⟨r,k,hk⟩).choose_spec
  have h1:=cL_mono (show k≤k+k' by omega) _ _ _ _ hk
  have h2:=cL_mono (show k'≤k+k' by omega) _ _ _ _ hk'
  rw[h1]at h2
  exact h2.symm
theorem cL_le_call (k:Nat):CLe (cL P pol k) (call P pol):=fun _ _ _ _ h=>call_some.2 ⟨k,h⟩
theorem cfn_fin {c1:CF}{c2:Nat→CF} (hc:∀ f as H r,c1 f as H=some r→∃ k,c2 k f as H=some r) {g:Nat}{args:List AV}{H:List MB}{r:AV×List MB} (h:cfn c1 g args H=some r):∃ k,cfn (c2 k) g args H=some r:=by
 unfold cfn at h
 split at h
 ·cases h
 ·rename_i hg
  obtain⟨k,hk⟩:=hc _ _ _ _ h
  exact⟨k,by unfold cfn;rw[if_neg hg];exact hk⟩
theorem evOne_fin {ops:List Oper}{o:Oper}{s s':St} (h:evOne P (call P pol) mu ops o s=some s'):∃ k,evOne P (cL P pol k) mu ops o s=some s':=by
 have hop:∀ {v},evOp P (call P pol) mu s.ev s.h o=some v→∃ k,evOp P (cL P pol k) mu s.ev s.h o=some v:=by
  intro v hv
  obtain⟨dst,op,type,pos,after,guard⟩:=o
  cases op
  case makeFunc fn first cap=>cases fn<;>exact⟨0,hv⟩
  case call c=>
   obtain⟨callee,args,ats⟩:=c
   cases callee with
   | builtin b=>exact⟨0,hv⟩
   | invoke x y=>exact⟨0,hv⟩
   | value f=>
     have key:∀(c1:CF) (c2:Nat→CF),(∀ f as H r,c1 f as H=some r→∃ k,c2 k f as H=some r)→evCall c1 s.ev s.h type ⟨.value f,args,ats⟩=some v→∃ k,evCall (c2 k) s.ev s.h type ⟨.value f,args,ats⟩=some v:=by
      intro c1 c2 hc hv
      simp only[evCall]at hv ⊢
      split at hv
      ·rename_i g cs hg
       exact cfn_fin hc hv
      ·rename_i g cs hg
       exact cfn_fin hc hv
      ·exact hc _ _ _ _ hv
      ·simp at hv
     simp only[evOp]at hv ⊢
     split at hv
     ·rename_i hi
      simp only[if_pos hi]
      refine key (evAlone (call P pol)) (fun k=>evAlone (cL P pol k)) (fun f as H r h=>?_) hv
      unfold evAlone at h
      split at h
      ·rename_i hu
       split at h
       ·rename_i r0 h0
        obtain⟨k,hk⟩:=call_some.1 h0
        refine⟨k,?_⟩
        unfold evAlone
        rw[if_pos hu,show cL P pol k f as []=_ from hk]
        exact h
       ·cases h
      ·cases h
     ·rename_i hi
      simp only[if_neg hi]
      split at hv
      ·rename_i hj
       simp only[if_pos hj]
       refine key (evThaw (call P pol)) (fun k=>evThaw (cL P pol k)) (fun f as H r h=>?_) hv
       unfold evThaw at h
       split at h
       ·rename_i as' ha
        split at h
        ·rename_i r0 K h0
         obtain⟨k,hk⟩:=call_some.1 h0
         refine⟨k,?_⟩
         unfold evThaw
         rw[ha]
         simp only[]
         rw[show cL P pol k f as' []=_ from hk]
         exact h
        ·cases h
       ·cases h
      rename_i hj
      simp only[if_neg hj]
      exact key (call P pol) (fun k=>cL P pol k) (fun f as H r h=>call_some.1 h) hv
  all_goals exact⟨0,hv⟩
 unfold evOne at h
 split at h
 ·rename_i hw
  split at h
  ·rename_i v H hv
   obtain⟨k,hk⟩:=hop hv
   exact⟨k,by unfold evOne;rw[hw];simp only[hk];exact h⟩
  ·simp at h
 ·rename_i hw
  exact⟨0,by unfold evOne;rw[hw];exact h⟩
 ·simp at h
theorem evOps_fin {ops:List Oper}:∀(l:List Oper) {s s':St},evOps P (call P pol) mu ops l s=some s'→∃ k,evOps P (cL P pol k) mu ops l s=some s'
 | [],s,s',h=>⟨0,h⟩
 | o::l,s,s',h=>by
   simp only[evOps]at h
   split at h
   ·rename_i s1 h1
    obtain⟨k1,e1⟩:=evOne_fin h1
    obtain⟨k2,e2⟩:=evOps_fin l h
    refine⟨k1+k2,?_⟩
    simp only[evOps]
    rw[evOne_mono (cL_mono (by omega)) e1]
    exact evOps_mono (cL_mono (by omega)) l e2
   ·simp at h
theorem evOpsD_fin {ops:List Oper}:∀(l:List Oper) (i:Nat) {s:St}{r:List (Nat×FP)×St},evOpsD P (call P pol) mu ops i l s=some r→∃ k,evOpsD P (cL P pol k) mu ops i l s=some r
 | [],i,s,r,h=>⟨0,h⟩
 | o::l,i,s,r,h=>by
   simp only[evOpsD]at h
   split at h
   ·rename_i b hb
    split at h
    ·rename_i s1 h1
     split at h
     ·rename_i fl s2 h2
      obtain⟨k1,e1⟩:=evOne_fin h1
      obtain⟨k2,e2⟩:=evOpsD_fin l (i+1) h2
      refine⟨k1+k2,?_⟩
      simp only[evOpsD]
      rw[hb,evOne_mono (cL_mono (by omega)) e1]
      simp only[]
      rw[evOpsD_mono (cL_mono (show k2≤k1+k2 by omega)) l (i+1) e2]
      exact h
     ·simp at h
    ·simp at h
   ·simp at h
theorem evOpsI_fin {ops:List Oper}:∀(l:List Nat) {s:St}{r:List (Nat×FP)×St},evOpsI P (call P pol) mu ops l s=some r→∃ k,evOpsI P (cL P pol k) mu ops l s=some r
 | [],s,r,h=>⟨0,h⟩
 | i::l,s,r,h=>by
   simp only[evOpsI]at h
   split at h
   ·simp at h
   ·rename_i o ho
    split at h
    ·rename_i b hb
     split at h
     ·rename_i s1 h1
      split at h
      ·rename_i fl s2 h2
       obtain⟨k1,e1⟩:=evOne_fin h1
       obtain⟨k2,e2⟩:=evOpsI_fin l h2
       refine⟨k1+k2,?_⟩
       simp only[evOpsI]
       rw[ho]
       simp only[]
       rw[hb,evOne_mono (cL_mono (by omega)) e1]
       simp only[]
       rw[evOpsI_mono (cL_mono (show k2≤k1+k2 by omega)) l e2]
       exact h
      ·simp at h
     ·simp at h
    ·simp at h
theorem evRegion_fin {ops:Array Oper}{al:Option (Nat×Nat×List Nat)}{d:Bool}{s s':St} (h:evRegion P (call P pol) mu ops al d s=some s'):∃ k,evRegion P (cL P pol k) mu ops al d s=some s':=by
 unfold evRegion at h
 split at h
 ·rename_i hd
  split at h
  ·split at h
   ·rename_i fl s1 h2
    obtain⟨k,e⟩:=evOpsD_fin _ _ h2
    exact⟨k,by unfold evRegion;rw[if_pos hd];simp only[];rw[e];exact h⟩
   ·simp at h
  ·split at h
   ·rename_i fl s1 h2
    split at h
    ·rename_i fl2 s2 h3
     obtain⟨k1,e1⟩:=evOpsD_fin _ _ h2
     obtain⟨k2,e2⟩:=evOpsI_fin _ h3
     refine⟨k1+k2,?_⟩
     unfold evRegion
     rw[if_pos hd]
     simp only[]
     rw[evOpsD_mono (cL_mono (show k1≤k1+k2 by omega)) _ _ e1]
     simp only[]
     rw[evOpsI_mono (cL_mono (show k2≤k1+k2 by omega)) _ e2]
     exact h
    ·simp at h
   ·simp at h
 ·rename_i hd
  obtain⟨k,e⟩:=evOps_fin _ h
  exact⟨k,by unfold evRegion;rw[if_neg hd];exact e⟩
theorem evCode_fin:∀(c:Code) {s:St}{r:EX×St},evCode P (call P pol) itL mu m c s=some r→∃ k,evCode P (cL P pol k) itL mu m c s=some r
 | .skip,s,r,h=>⟨0,h⟩
 | .label _,s,r,h=>⟨0,h⟩
 | .region _ ops d,s,r,h=>by
   simp only[evCode]at h
   cases hr:evRegion P (call P pol) mu ops (m.al _) d s with
   | none=>rw[hr]at h;simp at h
   | some s1=>
     obtain⟨k,e⟩:=evRegion_fin hr
     refine⟨k,?_⟩
     rw[hr]at h
     simp only[evCode,e];exact h
 | .seq a b,s,r,h=>by
   simp only[evCode]at h
   cases ha:evCode P (call P pol) itL mu m a s with
   | none=>rw[ha]at h;simp at h
   | some q=>
     rw[ha]at h
     obtain⟨k1,e1⟩:=evCode_fin a ha
     obtain⟨e,s1⟩:=q
     cases e with
     | norm=>
       obtain⟨k2,e2⟩:=evCode_fin b h
       refine⟨k1+k2,?_⟩
       simp only[evCode]
       rw[evCode_mono (cL_mono (show k1≤k1+k2 by omega)) itL_le a e1]
       exact evCode_mono (cL_mono (show k2≤k1+k2 by omega)) itL_le b e2
     | exit id=>exact⟨k1,by simp only[evCode,e1];exact h⟩
     | ret=>exact⟨k1,by simp only[evCode,e1];exact h⟩
 | .cond c x y,s,r,h=>by
   simp only[evCode]at h
   split at h
   ·rename_i hc
    obtain⟨k,e⟩:=evCode_fin x h
    exact⟨k,by simp only[evCode,hc];exact e⟩
   ·rename_i hc
    obtain⟨k,e⟩:=evCode_fin y h
    exact⟨k,by simp only[evCode,hc];exact e⟩
   ·simp at h
 | .block id b,s,r,h=>by
   simp only[evCode]at h
   cases hb:evCode P (call P pol) itL mu m b s with
   | none=>rw[hb]at h;simp at h
   | some q=>
     rw[hb]at h
     obtain⟨k,e⟩:=evCode_fin b hb
     exact⟨k,by simp only[evCode,e];exact h⟩
 | .loop b,s,r,h=>by
   simp only[evCode]at h
   rw[itL_some]at h
   obtain⟨n,hn⟩:=h
   suffices hs:∀ n s,iterN (fun s=>evCode P (call P pol) itL mu m b s) (m.lp (loopId b)) n s=some r→∃ k,iterN (fun s=>evCode P (cL P pol k) itL mu m b s) (m.lp (loopId b)) n s=some r by
    obtain⟨k,e⟩:=hs n s hn
    exact⟨k,by simp only[evCode];exact itL_some.2 ⟨n,e⟩⟩
   clear hn n
   intro n
   induction n with
   | zero=>intro s hn;simp[iterN]at hn
   | succ n ih=>
     intro s hn
     simp only[iterN]at hn
     cases hb:evCode P (call P pol) itL mu m b (prep (m.lp (loopId b)) s) with
     | none=>rw[hb]at hn;simp at hn
     | some q=>
       rw[hb]at hn
       obtain⟨k1,e1⟩:=evCode_fin b hb
       obtain⟨e,s1⟩:=q
       cases e with
       | norm=>
         obtain⟨k2,e2⟩:=ih s1 hn
         refine⟨k1+k2,?_⟩
         simp only[iterN]
         rw[evCode_mono (cL_mono (show k1≤k1+k2 by omega)) itL_le b e1]
         exact iterN_mono (fun s r hh=>evCode_mono (cL_mono (show k2≤k1+k2 by omega)) itL_le b hh) (m.lp (loopId b)) n n s1 r (Nat.le_refl _) e2
       | exit id=>exact⟨k1,by simp only[iterN,e1];exact hn⟩
       | ret=>exact⟨k1,by simp only[iterN,e1];exact hn⟩
 | .scope b,s,r,h=>by
   simp only[evCode]at h
   obtain⟨k,e⟩:=evCode_fin b h
   exact⟨k,by simp only[evCode];exact e⟩
 | .exit _,s,r,h=>⟨0,h⟩
 | .ret,s,r,h=>⟨0,h⟩
 | .rangeFunc _ _ _ b,s,r,h=>by
   simp only[evCode]at h
   split at h
   ·rename_i f hh cs hmf hg
    split at h
    ·rename_i v H' hc
     obtain⟨k,hk⟩:=cfn_fin (c2:=cL P pol) (fun f as H r h=>call_some.1 h) hc
     refine⟨k,?_⟩
     simp only[evCode,hmf,hg,hk];exact h
    ·cases h
   ·cases h
 | .goto _,s,r,h=>by simp[evCode]at h
 | .refuse _,s,r,h=>by simp[evCode]at h
theorem evBody_fin {f:Nat}{args:List AV}{H:List MB}{r:AV×List MB} (h:evBody P pol (call P pol) itL f args H=some r):∃ k,evBody P pol (cL P pol k) itL f args H=some r:=by
 unfold evBody at h ⊢
 split at h
 ·exact⟨0,h⟩
 ·split at h
  ·simp at h
  ·rename_i fn hfn
   split at h
   ·simp at h
   ·rename_i c hc
    split at h
    ·simp at h
    ·rename_i hn
     split at h
     ·simp at h
     ·rename_i as H1 hz
      cases hev:evCode P (call P pol) itL (pol.muts f) (cfgOf pol f H1.length) c { n:=as.length+(fn.ntmps-as.length),t:=initT 0 as [],h:=H1 } with
      | none=>rw[hev]at h;simp at h
      | some q=>
        obtain⟨k,e⟩:=evCode_fin c hev
        refine⟨k,?_⟩
        rw[hev]at h
        rw[if_neg hn,e]
        exact h
theorem evYield_fin {args:List AV}{H:List MB}{r:AV×List MB} (h:evYield P pol (call P pol) itL args H=some r):∃ k,evYield P pol (cL P pol k) itL args H=some r:=by
 unfold evYield at h ⊢
 split at h
 ·split at h
  ·rename_i hm
   split at h
   ·rename_i s hb
    split at h
    ·rename_i s1 hasg
     split at h
     ·rename_i s2 hbeg
      split at h
      ·rename_i e s' hev
       obtain⟨k1,e1⟩:=evCode_fin _ hasg
       obtain⟨k2,e2⟩:=evCode_fin _ hev
       refine⟨k1+k2,?_⟩
       rw[evCode_mono (cL_mono (show k1≤k1+k2 by omega)) itL_le _ e1]
       simp only[]
       rw[hbeg]
       simp only[]
       rw[evCode_mono (cL_mono (show k2≤k1+k2 by omega)) itL_le _ e2]
       exact h
      ·cases h
     ·cases h
    ·cases h
   ·cases h
  ·cases h
 ·cases h
theorem call_eq:call P pol=evStep P pol (call P pol) itL:=by
 funext f args H
 apply Option.ext
 intro r
 constructor
 ·intro h
  obtain⟨k,hk⟩:=call_some.1 h
  cases k with
  | zero=>simp[cL]at hk
  | succ k=>exact evStep_mono (cL_le_call k) itL_le f args H r hk
 ·intro h
  rw[call_some]
  suffices ∃ k,evStep P pol (cL P pol k) itL f args H=some r by
   obtain⟨k,e⟩:=this
   exact⟨k+1,e⟩
  unfold evStep at h ⊢
  split at h
  ·rename_i hp
   split at h
   ·rename_i as H1 hz
    split at h
    ·rename_i hu
     cases hb:evBody P pol (call P pol) itL f as [] with
     | none=>rw[hb]at h;simp[rebase]at h
     | some q=>
       obtain⟨k,e⟩:=evBody_fin hb
       rw[hb]at h
       exact⟨k,by rw[if_pos hp,if_pos hu,e];exact h⟩
    ·simp at h
   ·simp at h
  ·rename_i hp
   split at h
   ·rename_i hy
    obtain⟨k,e⟩:=evYield_fin h
    exact⟨k,by rw[if_neg hp,if_pos hy];exact e⟩
   ·rename_i hy
    obtain⟨k,e⟩:=evBody_fin h
    exact⟨k,by rw[if_neg hp,if_neg hy];exact e⟩
theorem call_ok (hext:ExtOk P pol) (hm:P.follows .mixedOrders=true):CfOk P (call P pol):=by
 have hk:∀ k,CfOk P (cL P pol k):=by
  intro k
  induction k with
  | zero=>exact⟨fun f args H r H' _ h=>by simp[cL]at h,fun args H r H' h=>by simp[cL]at h⟩
  | succ k ih=>exact evStep_sound hext ih itL_ok hm
 refine⟨fun f args H r H' hf h=>?_,fun args H r H' h=>?_⟩
 ·obtain⟨k,e⟩:=call_some.1 h
  exact(hk k).1 f args H r H' hf e
 ·obtain⟨k,e⟩:=call_some.1 h
  exact(hk k).2 args H r H' e
theorem call_of_evF {n:Nat}:∀(k:Nat),CLe (evF P pol n k) (call P pol)
 | 0=>fun f args H r h=>by simp[evF]at h
 | k+1=>fun f args H r h=>by
   rw[call_eq]
   exact evStep_mono (call_of_evF k) (itN_le n) f args H r (by simpa [evF] using h)
universe u v
open Go.RowKit
variable {P:Program}{pol:Pol}{cf:CF}{it:It}{mu:List Nat}{m:Cfg}
structure Tag {α:Sort u} (a:α):Type where
structure Tag2 {α:Sort u} {β:Sort v} (a:α) (b:β):Type where
def bindW {α:Type} (o:Option α) (Q:α→Prop) (_t:Tag Q):Prop:=∃ v,o=some v∧Q v
theorem bindW_some {α:Type} (v:α) (Q:α→Prop) (τ:Tag Q):bindW (some v) Q τ=Q v:=by simp[bindW]
theorem bindW_none {α:Type} (Q:α→Prop) (τ:Tag Q):bindW none Q τ=False:=by simp[bindW]
theorem bindW_map {α β:Type} (o:Option α) (f:α→β) (Q:β→Prop) (τ:Tag Q):bindW (o.map f) Q τ=bindW o (fun v=>Q (f v)) .mk:=by
 cases o<;>simp[bindW]
theorem bindW_ite {α:Type} (c:Prop) [Decidable c] (a:Option α) (Q:α→Prop) (τ:Tag Q):bindW (if c then a else none) Q τ=(c∧bindW a Q .mk):=by
 by_cases h:c<;>simp[h,bindW]
theorem bindW_iteN {α:Type} (c:Prop) [Decidable c] (a:Option α) (Q:α→Prop) (τ:Tag Q):bindW (if c then none else a) Q τ=(¬c∧bindW a Q .mk):=by
 by_cases h:c<;>simp[h,bindW]
def splitB (b:Bool) (X Y:Prop) (_t:Tag2 X Y):Prop:=(b=true→X)∧(b=false→Y)
section
variable (X Y:Prop) (τ:Tag2 X Y)
theorem splitB_true:splitB true X Y τ=X:=by simp[splitB]
theorem splitB_false:splitB false X Y τ=Y:=by simp[splitB]
theorem splitB_decide (p:Prop) [Decidable p]:splitB (decide p) X Y τ=((p→X)∧(¬p→Y)):=by simp[splitB]
theorem splitB_beq {α:Type} [DecidableEq α] (a b:α):splitB (a==b) X Y τ=((a=b→X)∧(a≠b→Y)):=by simp[splitB]
theorem splitB_bne {α:Type} [DecidableEq α] (a b:α):splitB (a != b) X Y τ=((a≠b→X)∧(a=b→Y)):=by simp[splitB]
theorem splitB_not (b:Bool):splitB (!b) X Y τ=splitB b Y X .mk:=by cases b<;>simp[splitB]
end
def asB:AV→Option Bool
 | .bool b=>some b
 | _=>none
theorem asB_bool (b:Bool):asB (.bool b)=some b:=rfl
def WO (P:Program) (cf:CF) (mu:List Nat) (ops rest:List Oper) (s:St) (Q:St→Prop) (_t:Tag2 rest Q):Prop:=bindW (evOps P cf mu ops rest s) Q .mk
theorem WO_nil {ops:List Oper}{s:St}{Q:St→Prop} {τ}:WO P cf mu ops [] s Q τ=Q s:=by simp[WO,evOps,bindW]
theorem WO_cons {ops rest:List Oper} {dst op ty pos after}{n:Nat}{t:Tm}{H:List MB}{Q:St→Prop} {τ} :
  WO P cf mu ops (⟨dst,op,ty,pos,after,none⟩::rest) ⟨n,t,H⟩ Q τ =
   bindW (evOp P cf mu (St.ev ⟨n,t,H⟩) H ⟨dst,op,ty,pos,after,none⟩) (fun q=>WO P cf mu ops rest (St.put ⟨n,t,q.2⟩ dst q.1) Q .mk) .mk:=by
 simp only[WO,evOps,evOne,evWanted]
 cases h:evOp P cf mu (St.ev ⟨n,t,H⟩) H ⟨dst,op,ty,pos,after,none⟩ with
 | none=>simp[bindW]
 | some q=>simp[bindW]
def guardV (ops:List Oper) (j:Nat) (t:Tm):Option (Nat×AV):=
 match ops[j]? with
 | some q=>match q.dst with
   | some d=>(look t d).map fun v=>(d,v)
   | none=>some (0,.tup [])
 | none=>some (0,.tup [])
def upd (d:Nat) (v:AV):Tm→Tm
 | []=>[]
 | (k,u)::t=>if k=d then(k,v)::t else(k,u)::upd d v t
def guardW (q:Nat×AV) (w:Bool) (t:Tm) (X:Tm→Prop) (Y:Tm→Prop) (_t:Tag2 X Y):Prop:=
 match q.2 with
 | .bool b=>splitB b (if w=true then X (upd q.1 (.bool true) t) else Y (upd q.1 (.bool true) t)) (if w=false then X (upd q.1 (.bool false) t) else Y (upd q.1 (.bool false) t)) .mk
 | .tup []=>Y t
 | _=>False
theorem guardW_bool {d:Nat}{b w:Bool}{t:Tm}{X Y:Tm→Prop} {τ}:guardW (d,.bool b) w t X Y τ =
 splitB b (if w=true then X (upd d (.bool true) t) else Y (upd d (.bool true) t)) (if w=false then X (upd d (.bool false) t) else Y (upd d (.bool false) t)) .mk:=rfl
theorem guardW_tup {d:Nat}{w:Bool}{t:Tm}{X Y:Tm→Prop} {τ}:guardW (d,.tup []) w t X Y τ=Y t:=rfl
theorem set_same {d:Nat}{v:AV}:∀ {t:Tm},look t d=some v→upd d v t=t
 | (k,u)::t,h=>by
   simp only[look]at h
   simp only[upd]
   split
   ·rename_i e
    rw[if_pos e]at h
    simp at h;rw[h]
   ·rename_i e
    rw[if_neg e]at h
    rw[set_same h]
theorem WO_guard {ops rest:List Oper} {dst op ty pos after}{j:Nat}{w:Bool}{n:Nat}{t:Tm}{H:List MB}{Q:St→Prop} {τ} :
  WO P cf mu ops (⟨dst,op,ty,pos,after,some (j,w)⟩::rest) ⟨n,t,H⟩ Q τ =
  bindW (guardV ops j t) (fun q=>guardW q w t
   (fun t=>bindW (evOp P cf mu (St.ev ⟨n,t,H⟩) H ⟨dst,op,ty,pos,after,none⟩) (fun q=>WO P cf mu ops rest (St.put ⟨n,t,q.2⟩ dst q.1) Q .mk) .mk)
   (fun t=>WO P cf mu ops rest (St.put ⟨n,t,H⟩ dst (.tup [])) Q .mk) .mk) .mk:=by
 have hop:∀ g,evOp P cf mu (St.ev ⟨n,t,H⟩) H ⟨dst,op,ty,pos,after,g⟩=evOp P cf mu (St.ev ⟨n,t,H⟩) H ⟨dst,op,ty,pos,after,none⟩:=fun g=>rfl
 have run:evWanted ops ⟨n,t,H⟩ ⟨dst,op,ty,pos,after,some (j,w)⟩=some true→WO P cf mu ops (⟨dst,op,ty,pos,after,some (j,w)⟩::rest) ⟨n,t,H⟩ Q τ =
   bindW (evOp P cf mu (St.ev ⟨n,t,H⟩) H ⟨dst,op,ty,pos,after,none⟩) (fun q=>WO P cf mu ops rest (St.put ⟨n,t,q.2⟩ dst q.1) Q .mk) .mk:=by
  intro h
  simp only[WO,evOps,evOne,h,hop]
  cases evOp P cf mu (St.ev ⟨n,t,H⟩) H ⟨dst,op,ty,pos,after,none⟩<;>simp[bindW]
 have skip:evWanted ops ⟨n,t,H⟩ ⟨dst,op,ty,pos,after,some (j,w)⟩=some false→WO P cf mu ops (⟨dst,op,ty,pos,after,some (j,w)⟩::rest) ⟨n,t,H⟩ Q τ =
   WO P cf mu ops rest (St.put ⟨n,t,H⟩ dst (.tup [])) Q .mk:=by
  intro h
  simp only[WO,evOps,evOne,h]
 have stuck:evWanted ops ⟨n,t,H⟩ ⟨dst,op,ty,pos,after,some (j,w)⟩=none→WO P cf mu ops (⟨dst,op,ty,pos,after,some (j,w)⟩::rest) ⟨n,t,H⟩ Q τ=False:=by
  intro h
  simp only[WO,evOps,evOne,h,bindW_none]
 unfold guardV
 cases hq0:ops[j]? with
 | none=>
   rw[skip (by simp[evWanted,hq0])]
   simp only[bindW_some,guardW_tup]
 | some q=>
   simp only[]
   cases hd:q.dst with
   | none=>
     rw[skip (by simp[evWanted,hq0,hd])]
     simp only[bindW_some,guardW_tup]
   | some d=>
     simp only[]
     cases htd:look t d with
     | none=>
       rw[stuck (by simp[evWanted,hq0,hd,htd])]
       simp[bindW]
     | some u=>
       simp only[Option.map_some,bindW_some]
       have st:(∀ b,u≠.bool b)→u≠.tup []→evWanted ops ⟨n,t,H⟩ ⟨dst,op,ty,pos,after,some (j,w)⟩=none:=by
        intro h1 h2
        simp only[evWanted,hq0,hd,htd]
        cases u with
        | bool b=>exact absurd rfl (h1 b)
        | tup l=>cases l with
          | nil=>exact absurd rfl h2
          | cons a l=>rfl
        | _=>rfl
       have ss:=set_same htd
       cases u with
       | bool b=>
         rw[guardW_bool]
         cases b<;>cases w
         ·rw[run (by simp[evWanted,hq0,hd,htd]),splitB_false,if_pos rfl,ss]
         ·rw[skip (by simp[evWanted,hq0,hd,htd])];simp[splitB_false,ss]
         ·rw[skip (by simp[evWanted,hq0,hd,htd])];simp[splitB_true,ss]
         ·rw[run (by simp[evWanted,hq0,hd,htd]),splitB_true,if_pos rfl,ss]
       | tup l=>
         cases l with
         | nil=>rw[skip (by simp[evWanted,hq0,hd,htd])];rfl
         | cons a l=>rw[stuck (st (by simp) (by simp))];rfl
       | _=>rw[stuck (st (by simp) (by simp))];rfl
def W (P:Program) (cf:CF) (it:It) (mu:List Nat) (m:Cfg) (c:Code) (s:St) (Q:EX→St→Prop) (_t:Tag2 c Q):Prop:=
 bindW (evCode P cf it mu m c s) (fun q=>Q q.1 q.2) .mk
def thenK (k:St→Prop) (Q:EX→St→Prop):EX→St→Prop
 | .norm,s=>k s
 | e,s=>Q e s
theorem thenK_norm {k:St→Prop}{Q:EX→St→Prop}{s:St}:thenK k Q .norm s=k s:=rfl
theorem thenK_exit {k:St→Prop}{Q:EX→St→Prop}{s:St}{i:Nat}:thenK k Q (.exit i) s=Q (.exit i) s:=rfl
theorem thenK_ret {k:St→Prop}{Q:EX→St→Prop}{s:St}:thenK k Q .ret s=Q .ret s:=rfl
def blockK (l:List Nat) (id:Nat) (Q:EX→St→Prop):EX→St→Prop
 | .exit i,s=>if i=id then Q .norm (dropSt l s) else Q (.exit i) s
 | .norm,s=>Q .norm (dropSt l s)
 | .ret,s=>Q .ret s
theorem blockK_norm {l:List Nat}{id:Nat}{Q:EX→St→Prop}{s:St}:blockK l id Q .norm s=Q .norm (dropSt l s):=rfl
theorem blockK_ret {l:List Nat}{id:Nat}{Q:EX→St→Prop}{s:St}:blockK l id Q .ret s=Q .ret s:=rfl
theorem blockK_exit {l:List Nat}{id i:Nat}{Q:EX→St→Prop}{s:St}:blockK l id Q (.exit i) s=if i=id then Q .norm (dropSt l s) else Q (.exit i) s:=rfl
theorem W_seq {a b:Code}{s:St}{Q:EX→St→Prop} {τ}:W P cf it mu m (.seq a b) s Q τ=W P cf it mu m a s (thenK (fun s=>W P cf it mu m b s Q .mk) Q) .mk:=by
 simp only[W,evCode]
 cases evCode P cf it mu m a s with
 | none=>simp[bindW]
 | some q=>
   obtain⟨e,s'⟩:=q
   cases e<;>simp[bindW,thenK]
theorem W_region {id:Nat}{os:List Oper}{s:St}{Q:EX→St→Prop} {τ}:W P cf it mu m (.region id ⟨os⟩ false) s Q τ=WO P cf mu os os s (fun s=>Q .norm (dropSt (m.dd id) (actL (m.ra id) s))) .mk:=by
 simp only[W,WO,evCode,evRegion,Bool.false_eq_true,if_false,bindW_map]
theorem W_skip {s:St}{Q:EX→St→Prop} {τ}:W P cf it mu m .skip s Q τ=Q .norm s:=by simp[W,evCode,bindW]
theorem W_label {l:Nat}{s:St}{Q:EX→St→Prop} {τ}:W P cf it mu m (.label l) s Q τ=Q .norm s:=by simp[W,evCode,bindW]
theorem W_ret {s:St}{Q:EX→St→Prop} {τ}:W P cf it mu m .ret s Q τ=Q .ret s:=by simp[W,evCode,bindW]
theorem W_exit {id:Nat}{s:St}{Q:EX→St→Prop} {τ}:W P cf it mu m (.exit id) s Q τ=Q (.exit id) s:=by simp[W,evCode,bindW]
theorem W_scope {b:Code}{s:St}{Q:EX→St→Prop} {τ}:W P cf it mu m (.scope b) s Q τ=W P cf it mu m b s Q .mk:=by simp[W,evCode]
theorem W_block {id:Nat}{b:Code}{s:St}{Q:EX→St→Prop} {τ}:W P cf it mu m (.block id b) s Q τ=W P cf it mu m b s (blockK (m.bd id) id Q) .mk:=by
 simp only[W,evCode]
 cases evCode P cf it mu m b s with
 | none=>simp[bindW]
 | some q=>
   obtain⟨e,s'⟩:=q
   cases e with
   | exit i=>by_cases h:i=id<;>simp[bindW,blockK,h]
   | norm=>simp[bindW,blockK]
   | ret=>simp[bindW,blockK]
theorem W_cond {d:Nat}{x y:Code}{n:Nat}{t:Tm}{H:List MB}{Q:EX→St→Prop} {τ}:W P cf it mu m (.cond (.tmp d) x y) ⟨n,t,H⟩ Q τ =
  bindW (look t d) (fun v=>bindW (asB v) (fun b=>splitB b (W P cf it mu m x ⟨n,upd d (.bool true) t,H⟩ Q .mk) (W P cf it mu m y ⟨n,upd d (.bool false) t,H⟩ Q .mk) .mk) .mk) .mk:=by
 cases hv:look t d with
 | none=>
   have hg:lookD t d=.top:=by unfold lookD;rw[hv]
   simp only[W,evCode,St.ev,hg,bindW_none]
 | some v=>
   have hg:lookD t d=v:=by unfold lookD;rw[hv]
   have ss:=set_same hv
   simp only[bindW_some]
   cases v with
   | bool b=>cases b<;>simp only[W,evCode,St.ev,hg,asB_bool,bindW_some,splitB_true,splitB_false,ss]
   | _=>simp only[W,evCode,St.ev,hg,asB,bindW_none]
def roundK (k:St→Prop) (Q:EX→St→Prop):EX→St→Prop
 | .norm,s=>k s
 | e,s=>Q e s
theorem roundK_norm {k:St→Prop}{Q:EX→St→Prop}{s:St}:roundK k Q .norm s=k s:=rfl
theorem roundK_exit {k:St→Prop}{Q:EX→St→Prop}{s:St}{i:Nat}:roundK k Q (.exit i) s=Q (.exit i) s:=rfl
theorem roundK_ret {k:St→Prop}{Q:EX→St→Prop}{s:St}:roundK k Q .ret s=Q .ret s:=rfl
theorem W_loop {b:Code}{Q:EX→St→Prop} (J:Nat→St→Prop)
  (h:∀ n s,J n s→W P cf itL mu m b (prep (m.lp (loopId b)) s) (roundK (fun s'=>∃ n',n'<n∧J n' s') Q) .mk) :
  ∀(n:Nat) (s:St),J n s→W P cf itL mu m (.loop b) s Q .mk:=by
 intro n
 induction n using Nat.strongRecOn with
 | ind n ih=>
   intro s hs
   obtain⟨⟨e,s'⟩,h1,h2⟩:=h n s hs
   simp only[W,evCode]
   cases e with
   | norm=>
     obtain⟨n',hn,hj⟩:=h2
     obtain⟨q,q1,q2⟩:=ih n' hn s' hj
     refine⟨q,?_,q2⟩
     rw[itL_eq]
     simp only[evCode]at q1
     simp only[h1];exact q1
   | exit id=>exact⟨_,by rw[itL_eq];simp only[h1],h2⟩
   | ret=>exact⟨_,by rw[itL_eq];simp only[h1],h2⟩
theorem W_for {σ:Type}{b:Code}{Q:EX→St→Prop}{M:Msk} (hM:m.lp (loopId b)=M) (T:σ→St) (Inv:σ→Prop) (μ:σ→Nat) (x0:σ)
  (h:∀ x,Inv x→W P cf itL mu m b (T x) (roundK (fun s'=>∃ x',Inv x'∧μ x'<μ x∧prep M s' = T x') Q) .mk)
  (h0:Inv x0) (s:St) (hs:prep M s=T x0):W P cf itL mu m (.loop b) s Q .mk:=by
 subst hM
 refine W_loop (fun n s=>∃ x,Inv x∧μ x=n∧prep (m.lp (loopId b)) s=T x) ?_ (μ x0) s ⟨x0,h0,rfl,hs⟩
 rintro n s ⟨x,h1,rfl,h3⟩
 rw[h3]
 obtain⟨q,q1,q2⟩:=h x h1
 refine⟨q,q1,?_⟩
 obtain⟨e,s'⟩:=q
 cases e with
 | norm=>
   obtain⟨x',a,b,c⟩:=q2
   exact⟨_,b,x',a,rfl,c⟩
 | exit i=>exact q2
 | ret=>exact q2
theorem W_count {b:Code}{Q:EX→St→Prop}{M:Msk} (hM:m.lp (loopId b)=M) (N:Nat) (T:Nat→St) (Inv:Nat→Prop)
  (h:∀ i,i<N→Inv i→W P cf itL mu m b (T i) (roundK (fun s'=>Inv (i+1)∧prep M s' = T (i+1)) Q) .mk)
  (hN:Inv N→W P cf itL mu m b (T N) (roundK (fun _=>False) Q) .mk)
  (h0:Inv 0) (s:St) (hs:prep M s=T 0):W P cf itL mu m (.loop b) s Q .mk:=by
 refine W_for hM T (fun i=>i≤N∧Inv i) (fun i=>N-i) 0 ?_ ⟨Nat.zero_le _,h0⟩ s hs
 rintro i ⟨h1,h2⟩
 by_cases hi:i<N
 ·obtain⟨q,q1,q2⟩:=h i hi h2
  refine⟨q,q1,?_⟩
  obtain⟨e,s'⟩:=q
  cases e with
  | norm=>exact⟨i+1,⟨hi,q2.1⟩,by show N-(i+1)<N-i;omega,q2.2⟩
  | exit i=>exact q2
  | ret=>exact q2
 ·obtain rfl:i=N:=by omega
  obtain⟨q,q1,q2⟩:=hN h2
  refine⟨q,q1,?_⟩
  obtain⟨e,s'⟩:=q
  cases e with
  | norm=>exact q2.elim
  | exit i=>exact q2
  | ret=>exact q2
def endK (P:Program) (pol:Pol) (f:Nat) (H1:List MB) (rs:List ResultVar) (r:AV×List MB):EX→St→Prop
 | .exit _,_=>False
 | _,s=>bindW (evResults P s rs) (fun vs=>retPol pol f H1 (packRes vs) s.h=some r) .mk
theorem endK_norm {f H1 rs r s}:endK P pol f H1 rs r .norm s=bindW (evResults P s rs) (fun vs=>retPol pol f H1 (packRes vs) s.h=some r) .mk:=rfl
theorem endK_ret {f H1 rs r s}:endK P pol f H1 rs r .ret s=bindW (evResults P s rs) (fun vs=>retPol pol f H1 (packRes vs) s.h=some r) .mk:=rfl
theorem evBody_of {f:Nat}{args:List AV}{H:List MB}{r:AV×List MB}{fn:Func}{c:Code} (he:pol.ext f=none) (hf:P.funcs[f]?=some fn) (hc:fn.body=some c)
  (hn:(fn.name == "runtime.NumGoroutine")=false)
  (h:bindW (frzArgs pol f 0 args H) (fun q=>W P cf it (pol.muts f) (cfgOf pol f q.2.length) c ⟨q.1.length+(fn.ntmps-q.1.length),initT 0 q.1 [],q.2⟩ (endK P pol f q.2 fn.results.toList r) .mk) .mk) :
  evBody P pol cf it f args H=some r:=by
 obtain⟨⟨as,H1⟩,hz,⟨e,s⟩,hev,hk⟩:=h
 unfold evBody
 simp only[he,hf,hc]
 rw[if_neg (by simpa using hn)]
 simp only[hz,hev]
 cases e with
 | exit id=>exact hk.elim
 | norm=>
   obtain⟨vs,h1,h2⟩:=hk
   simp only[h1];exact h2
 | ret=>
   obtain⟨vs,h1,h2⟩:=hk
   simp only[h1];exact h2
end Go.Ev
namespace Go.Ev
open Go.RowKit
variable {P:Program}{pol:Pol}{cf:CF}{it:It}{mu:List Nat}{m:Cfg}
mutual
theorem AV.beq_refl:∀ a:AV,AV.beq a a=true
 | .top | .nilp | .nilf | .nili | .nilm=>rfl
 | .int k n=>by simp[AV.beq]
 | .bool x=>by simp[AV.beq]
 | .str s=>by simp[AV.beq]
 | .sl t xs=>by simp[AV.beq,AV.beqL_refl xs]
 | .pt xs=>by simp[AV.beq,AV.beqL_refl xs]
 | .rf a b c d=>by simp[AV.beq]
 | .ms a b c d e=>by simp[AV.beq]
 | .mpr a=>by simp[AV.beq]
 | .yld a=>by simp[AV.beq]
 | .clo f xs=>by simp[AV.beq,AV.beqL_refl xs]
 | .clb f xs=>by simp[AV.beq,AV.beqL_refl xs]
 | .agg xs=>by simp[AV.beq,AV.beqL_refl xs]
 | .tup xs=>by simp[AV.beq,AV.beqL_refl xs]
 | .ifc t x=>by simp[AV.beq,AV.beq_refl x]
 | .psl a b c=>by simp[AV.beq]
theorem AV.beqL_refl:∀ l:List AV,AV.beqL l l=true
 | []=>rfl
 | x::xs=>by simp[AV.beqL,AV.beq_refl x,AV.beqL_refl xs]
end
theorem MB.beqE_refl:∀ l:List (AV×AV),MB.beqE l l=true
 | []=>rfl
 | (a,b)::l=>by simp[MB.beqE,AV.beq_refl,MB.beqE_refl l]
theorem MB.beqT_refl:∀ l:List (Nat×AV),MB.beqT l l=true
 | []=>rfl
 | (a,b)::l=>by simp[MB.beqT,AV.beq_refl,MB.beqT_refl l]
theorem codeEq_refl (c:Code×Code):codeEq c c=true:=by simp[codeEq]
theorem MB.beq_refl (b:MB):MB.beq b b=true:=by
 cases b<;>simp[MB.beq,AV.beqL_refl,MB.beqE_refl,MB.beqT_refl,codeEq_refl]
theorem heapEq_refl:∀ H:List MB,heapEq H H=true
 | []=>rfl
 | b::H=>by simp[heapEq,MB.beq_refl,heapEq_refl H]
theorem sameAt_refl (id:Nat) (H:List MB):sameAt id H H=true:=by
 unfold sameAt
 cases H[id]?<;>simp[MB.beq_refl]
def dOk (os:List Oper) (_t:Tag os):Prop:=drawOk ⟨os⟩=true
def fpL (i:Nat) (o:Option FP):List (Nat×FP):=
 match o with
 | some p=>[(i,p)]
 | none=>[]
theorem fpL_some (i:Nat) (p:FP):fpL i (some p)=[(i,p)]:=rfl
theorem fpL_none (i:Nat):fpL i none=[]:=rfl
def WD (P:Program) (cf:CF) (mu:List Nat) (ops:List Oper) (i:Nat) (rest:List Oper) (s:St) (acc:List (Nat×FP)) (Q:List (Nat×FP)→St→Prop) (_t:Tag2 rest Q):Prop:=
 bindW (evOpsD P cf mu ops i rest s) (fun q=>Q (acc++q.1) q.2) .mk
theorem WD_nil {ops:List Oper}{i:Nat}{s:St} {acc}{Q:List (Nat×FP)→St→Prop} {τ}:WD P cf mu ops i [] s acc Q τ=Q acc s:=by simp[WD,evOpsD,bindW]
theorem WD_cons {ops rest:List Oper}{i:Nat} {dst op ty pos after}{n:Nat}{t:Tm}{H:List MB} {acc}{Q:List (Nat×FP)→St→Prop} {τ} :
  WD P cf mu ops i (⟨dst,op,ty,pos,after,none⟩::rest) ⟨n,t,H⟩ acc Q τ =
   bindW (evOp P cf mu (St.ev ⟨n,t,H⟩) H ⟨dst,op,ty,pos,after,none⟩) (fun q=>WD P cf mu ops (i+1) rest (St.put ⟨n,t,q.2⟩ dst q.1)
    (acc++fpL i (footprint mu (St.ev ⟨n,t,H⟩) ⟨dst,op,ty,pos,after,none⟩ H q.2)) Q .mk) .mk:=by
 simp only[WD,evOpsD,evOne,evWanted]
 cases h:evOp P cf mu (St.ev ⟨n,t,H⟩) H ⟨dst,op,ty,pos,after,none⟩ with
 | none=>simp[bindW]
 | some q=>
   obtain⟨v,H'⟩:=q
   have hp:∀(d:Option Tmp),(St.put ⟨n,t,H'⟩ d v).h=H':=fun d=>by cases d<;>rfl
   cases h2:evOpsD P cf mu ops (i+1) rest (St.put ⟨n,t,H'⟩ dst v) with
   | none=>simp[bindW,h2]
   | some r=>
     obtain⟨l,s⟩:=r
     simp only[bindW_some,h2,if_true,hp]
     cases footprint mu (St.ev ⟨n,t,H⟩) ⟨dst,op,ty,pos,after,none⟩ H H'<;>simp[fpL]
theorem WD_guard {ops rest:List Oper}{i:Nat} {dst op ty pos after}{j:Nat}{w:Bool}{n:Nat}{t:Tm}{H:List MB} {acc}{Q:List (Nat×FP)→St→Prop} {τ} :
  WD P cf mu ops i (⟨dst,op,ty,pos,after,some (j,w)⟩::rest) ⟨n,t,H⟩ acc Q τ =
  bindW (guardV ops j t) (fun q=>guardW q w t
   (fun t=>bindW (evOp P cf mu (St.ev ⟨n,t,H⟩) H ⟨dst,op,ty,pos,after,none⟩) (fun q=>WD P cf mu ops (i+1) rest (St.put ⟨n,t,q.2⟩ dst q.1) (acc++fpL i (footprint mu (St.ev ⟨n,t,H⟩) ⟨dst,op,ty,pos,after,none⟩ H q.2)) Q .mk) .mk)
   (fun t=>WD P cf mu ops (i+1) rest (St.put ⟨n,t,H⟩ dst (.tup [])) acc Q .mk) .mk) .mk:=by
 have hop:∀ g,evOp P cf mu (St.ev ⟨n,t,H⟩) H ⟨dst,op,ty,pos,after,g⟩=evOp P cf mu (St.ev ⟨n,t,H⟩) H ⟨dst,op,ty,pos,after,none⟩:=fun g=>rfl
 have run:evWanted ops ⟨n,t,H⟩ ⟨dst,op,ty,pos,after,some (j,w)⟩=some true→WD P cf mu ops i (⟨dst,op,ty,pos,after,some (j,w)⟩::rest) ⟨n,t,H⟩ acc Q τ =
   bindW (evOp P cf mu (St.ev ⟨n,t,H⟩) H ⟨dst,op,ty,pos,after,none⟩) (fun q=>WD P cf mu ops (i+1) rest (St.put ⟨n,t,q.2⟩ dst q.1) (acc++fpL i (footprint mu (St.ev ⟨n,t,H⟩) ⟨dst,op,ty,pos,after,none⟩ H q.2)) Q .mk) .mk:=by
  intro h
  have hfp:∀ g H',footprint mu (St.ev ⟨n,t,H⟩) ⟨dst,op,ty,pos,after,g⟩ H H' = footprint mu (St.ev ⟨n,t,H⟩) ⟨dst,op,ty,pos,after,none⟩ H H':=fun g H'=>rfl
  simp only[WD,evOpsD,evOne,h,hop,hfp]
  cases evOp P cf mu (St.ev ⟨n,t,H⟩) H ⟨dst,op,ty,pos,after,none⟩ with
  | none=>simp[bindW]
  | some q=>
    obtain⟨v,H'⟩:=q
    have hp:∀(d:Option Tmp),(St.put ⟨n,t,H'⟩ d v).h=H':=fun d=>by cases d<;>rfl
    cases h2:evOpsD P cf mu ops (i+1) rest (St.put ⟨n,t,H'⟩ dst v) with
    | none=>simp[bindW,h2]
    | some r=>
      obtain⟨l,s⟩:=r
      simp only[bindW_some,h2,if_true,hp]
      cases footprint mu (St.ev ⟨n,t,H⟩) ⟨dst,op,ty,pos,after,none⟩ H H'<;>simp[fpL]
 have skip:evWanted ops ⟨n,t,H⟩ ⟨dst,op,ty,pos,after,some (j,w)⟩=some false→WD P cf mu ops i (⟨dst,op,ty,pos,after,some (j,w)⟩::rest) ⟨n,t,H⟩ acc Q τ =
   WD P cf mu ops (i+1) rest (St.put ⟨n,t,H⟩ dst (.tup [])) acc Q .mk:=by
  intro h
  simp only[WD,evOpsD,evOne,h]
  cases h2:evOpsD P cf mu ops (i+1) rest (St.put ⟨n,t,H⟩ dst (.tup [])) with
  | none=>simp[bindW]
  | some r=>
    obtain⟨l,s⟩:=r
    simp[bindW]
 have stuck:evWanted ops ⟨n,t,H⟩ ⟨dst,op,ty,pos,after,some (j,w)⟩=none→WD P cf mu ops i (⟨dst,op,ty,pos,after,some (j,w)⟩::rest) ⟨n,t,H⟩ acc Q τ=False:=by
  intro h
  simp only[WD,evOpsD,evOne,h,bindW_none]
 unfold guardV
 cases hq0:ops[j]? with
 | none=>
   rw[skip (by simp[evWanted,hq0])]
   simp only[bindW_some,guardW_tup]
 | some q=>
   simp only[]
   cases hd:q.dst with
   | none=>
     rw[skip (by simp[evWanted,hq0,hd])]
     simp only[bindW_some,guardW_tup]
   | some d=>
     simp only[]
     cases htd:look t d with
     | none=>
       rw[stuck (by simp[evWanted,hq0,hd,htd])]
       simp[bindW]
     | some u=>
       simp only[Option.map_some,bindW_some]
       have st:(∀ b,u≠.bool b)→u≠.tup []→evWanted ops ⟨n,t,H⟩ ⟨dst,op,ty,pos,after,some (j,w)⟩=none:=by
        intro h1 h2
        simp only[evWanted,hq0,hd,htd]
        cases u with
        | bool b=>exact absurd rfl (h1 b)
        | tup l=>cases l with
          | nil=>exact absurd rfl h2
          | cons a l=>rfl
        | _=>rfl
       have ss:=set_same htd
       cases u with
       | bool b=>
         rw[guardW_bool]
         cases b<;>cases w
         ·rw[run (by simp[evWanted,hq0,hd,htd]),splitB_false,if_pos rfl,ss]
         ·rw[skip (by simp[evWanted,hq0,hd,htd])];simp[splitB_false,ss]
         ·rw[skip (by simp[evWanted,hq0,hd,htd])];simp[splitB_true,ss]
         ·rw[run (by simp[evWanted,hq0,hd,htd]),splitB_true,if_pos rfl,ss]
       | tup l=>
         cases l with
         | nil=>rw[skip (by simp[evWanted,hq0,hd,htd])];rfl
         | cons a l=>rw[stuck (st (by simp) (by simp))];rfl
       | _=>rw[stuck (st (by simp) (by simp))];rfl
def WI (P:Program) (cf:CF) (mu:List Nat) (ops:List Oper) (ord:List Nat) (s:St) (acc:List (Nat×FP)) (Q:List (Nat×FP)→St→Prop) (_t:Tag2 ord Q):Prop:=
 bindW (evOpsI P cf mu ops ord s) (fun q=>Q (acc++q.1) q.2) .mk
theorem WI_nil {ops:List Oper}{s:St} {acc}{Q:List (Nat×FP)→St→Prop} {τ}:WI P cf mu ops [] s acc Q τ=Q acc s:=by simp[WI,evOpsI,bindW]
theorem WI_cons {ops:List Oper}{i:Nat}{rest:List Nat}{s:St} {acc}{Q:List (Nat×FP)→St→Prop} {τ} :
  WI P cf mu ops (i::rest) s acc Q τ=bindW ops[i]? (fun o=>WD P cf mu ops i [o] s acc (fun acc' s'=>WI P cf mu ops rest s' acc' Q .mk) .mk) .mk:=by
 simp only[WI,WD,evOpsI,evOpsD]
 cases ops[i]? with
 | none=>simp[bindW]
 | some o=>
   simp only[bindW_some]
   cases evWanted ops s o with
   | none=>simp[bindW]
   | some b=>
     simp only[]
     cases evOne P cf mu ops o s with
     | none=>simp[bindW]
     | some s1=>
       simp only[bindW_some]
       cases evOpsI P cf mu ops rest s1 with
       | none=>simp[bindW]
       | some q=>
         obtain⟨l,s2⟩:=q
         simp only[bindW_some]
         cases (if b=true then footprint mu s.ev o s.h s1.h else none)<;>simp
def altW (o:Option (Nat×Nat×List Nat)) (X:Prop) (Y:Nat→Nat→List Nat→Prop) (_t:Tag2 X Y):Prop:=
 match o with
 | none=>X
 | some (p,q,ord)=>Y p q ord
theorem altW_none {X:Prop}{Y:Nat→Nat→List Nat→Prop} {τ}:altW none X Y τ=X:=rfl
theorem altW_some {p q:Nat}{ord:List Nat}{X:Prop}{Y:Nat→Nat→List Nat→Prop} {τ}:altW (some (p,q,ord)) X Y τ=Y p q ord:=rfl
theorem heapEq_self (H:List MB):heapEq H H=true:=by
 induction H with
 | nil=>rfl
 | cons x H ih=>simp[heapEq,MB.beq_refl,ih]
theorem tmEq_refl:∀ t:Tm,tmEq t t=true
 | []=>rfl
 | (k,v)::t=>by simp[tmEq,AV.beq_refl,tmEq_refl t]
theorem St.beq_refl (s:St):St.beq s s=true:=by simp[St.beq,tmEq_refl,heapEq_self]
theorem W_draw {id:Nat}{os:List Oper}{s:St}{Q:EX→St→Prop} {τ}:W P cf it mu m (.region id ⟨os⟩ true) s Q τ =
  altW (m.al id) (dOk os .mk∧WD P cf mu os 0 os s [] (fun l s=>pairsOk ⟨os⟩ l=true∧Q .norm (dropSt (m.dd id) (actL (m.ra id) s))) .mk)
   (fun p q ord=>dOk os .mk∧altO ⟨os⟩ p q ord=true∧WD P cf mu os 0 os s [] (fun l s1=>pairsX ⟨os⟩ p q l=true ∧
     WI P cf mu os ord s [] (fun l2 s2=>pairsX ⟨os⟩ q p l2=true∧St.beq s1 s2=true∧Q .norm (dropSt (m.dd id) (actL (m.ra id) s1))) .mk) .mk) .mk:=by
 simp only[W,WD,WI,evCode,evRegion,if_true,bindW_map,dOk]
 cases m.al id with
 | none=>
   simp only[altW]
   cases evOpsD P cf mu os 0 os s with
   | none=>simp[bindW]
   | some q=>
     obtain⟨l,s'⟩:=q
     simp only[bindW_some,List.nil_append]
     by_cases h1:drawOk ⟨os⟩=true<;>by_cases h2:pairsOk ⟨os⟩ l=true<;>simp[h1,h2,bindW]
 | some a=>
   obtain⟨p,q,ord⟩:=a
   simp only[altW]
   cases evOpsD P cf mu os 0 os s with
   | none=>simp[bindW]
   | some x=>
     obtain⟨l,s1⟩:=x
     simp only[bindW_some,List.nil_append]
     cases evOpsI P cf mu os ord s with
     | none=>simp[bindW]
     | some y=>
       obtain⟨l2,s2⟩:=y
       simp only[bindW_some,List.nil_append]
       by_cases h1:drawOk ⟨os⟩=true<;>by_cases h2:altO ⟨os⟩ p q ord=true<;>by_cases h3:pairsX ⟨os⟩ p q l=true<;>by_cases h4:pairsX ⟨os⟩ q p l2=true<;>by_cases h5:St.beq s1 s2=true<;>simp[h1,h2,h3,h4,h5,bindW]
theorem cfg_al {f n:Nat}:(cfgOf pol f n).al=pol.alts f:=rfl
mutual
def AV.plain:AV→Bool
 | .rf _ _ _ _ | .ms _ _ _ _ _ | .mpr _ | .yld _=>false
 | .sl t xs=>!t&&AV.plainL xs
 | .pt xs=>AV.plainL xs
 | .clo _ xs=>AV.plainL xs
 | .clb _ xs=>AV.plainL xs
 | .agg xs=>AV.plainL xs
 | .tup xs=>AV.plainL xs
 | .ifc _ x=>AV.plain x
 | _=>true
def AV.plainL:List AV→Bool
 | []=>true
 | x::xs=>AV.plain x&&AV.plainL xs
end
theorem plainL_iff (l:List AV):AV.plainL l=true↔∀ x∈l,AV.plain x=true:=by
 induction l with
 | nil=>simp[AV.plainL]
 | cons a l ih=>simp[AV.plainL,ih]
mutual
theorem fzA_plain (jump:List AV→List MB→Option (List AV×List MB)):∀(a:AV) (H:List MB),AV.plain a=true→fzA jump a H=some (a,H)
 | .sl t xs,H,h=>by
   simp only[AV.plain,Bool.and_eq_true,Bool.not_eq_true']at h
   obtain⟨rfl,h2⟩:=h
   simp only[fzA,fzL_plain jump xs H h2]
 | .pt xs,H,h=>by simp only[AV.plain]at h;simp only[fzA,fzL_plain jump xs H h]
 | .agg xs,H,h=>by simp only[AV.plain]at h;simp only[fzA,fzL_plain jump xs H h]
 | .tup xs,H,h=>by simp only[AV.plain]at h;simp only[fzA,fzL_plain jump xs H h]
 | .rf _ _ _ _,H,h=>by simp[AV.plain]at h
 | .ms _ _ _ _ _,H,h=>by simp[AV.plain]at h
 | .mpr _,H,h=>by simp[AV.plain]at h
 | .yld _,H,h=>by simp[AV.plain]at h
 | .top,H,h=>rfl
 | .int _ _,H,h=>rfl
 | .bool _,H,h=>rfl
 | .str _,H,h=>rfl
 | .nilp,H,h=>rfl
 | .nilf,H,h=>rfl
 | .nili,H,h=>rfl
 | .nilm,H,h=>rfl
 | .clo _ _,H,h=>rfl
 | .clb _ _,H,h=>rfl
 | .ifc _ _,H,h=>rfl
 | .psl _ _ _,H,h=>rfl
theorem fzL_plain (jump:List AV→List MB→Option (List AV×List MB)):∀(l:List AV) (H:List MB),AV.plainL l=true→fzL jump l H=some (l,H)
 | [],H,_=>rfl
 | x::xs,H,h=>by
   simp only[AV.plainL,Bool.and_eq_true]at h
   simp only[fzL,fzA_plain jump x H h.1,fzL_plain jump xs H h.2]
end
mutual
theorem under_plain (n:Nat):∀(a:AV),AV.plain a=true→AV.under n a=true
 | .sl t xs,h=>by
   simp only[AV.plain,Bool.and_eq_true]at h
   simp only[AV.under,underL_plain n xs h.2]
 | .pt xs,h=>by simp only[AV.plain]at h;simp only[AV.under,underL_plain n xs h]
 | .agg xs,h=>by simp only[AV.plain]at h;simp only[AV.under,underL_plain n xs h]
 | .tup xs,h=>by simp only[AV.plain]at h;simp only[AV.under,underL_plain n xs h]
 | .clo _ xs,h=>by simp only[AV.plain]at h;simp only[AV.under,underL_plain n xs h]
 | .clb _ xs,h=>by simp only[AV.plain]at h;simp only[AV.under,underL_plain n xs h]
 | .ifc _ x,h=>by simp only[AV.plain]at h;simp only[AV.under,under_plain n x h]
 | .rf _ _ _ _,h=>by simp[AV.plain]at h
 | .ms _ _ _ _ _,h=>by simp[AV.plain]at h
 | .mpr _,h=>by simp[AV.plain]at h
 | .yld _,h=>by simp[AV.plain]at h
 | .psl _ _ _,h=>rfl
 | .top,h=>rfl
 | .int _ _,h=>rfl
 | .bool _,h=>rfl
 | .str _,h=>rfl
 | .nilp,h=>rfl
 | .nilf,h=>rfl
 | .nili,h=>rfl
 | .nilm,h=>rfl
theorem underL_plain (n:Nat):∀(l:List AV),AV.plainL l=true→AV.underL n l=true
 | [],_=>rfl
 | x::xs,h=>by
   simp only[AV.plainL,Bool.and_eq_true]at h
   simp only[AV.underL,under_plain n x h.1,underL_plain n xs h.2,Bool.and_self]
end
theorem fz_plain {a:AV} (H:List MB) (h:AV.plain a=true):fz a H=some (a,H):=fzA_plain _ a H h
theorem keptOk_zero (H K:List MB):keptOk 0 [] K=true:=by cases K<;>rfl
theorem call_plain {f:Nat}{args:List AV}{r:AV} (hp:pol.pure f=true) (ha:AV.plainL args=true) (hr:AV.plain r=true)
  (h:evBody P pol (call P pol) itL f args []=some (r,[])) (H:List MB):call P pol f args H=some (r,H):=by
 have hf:∀(l:List AV) (i:Nat),AV.plainL l=true→frzArgs pol f i l H=some (l,H):=by
  intro l
  induction l with
  | nil=>intro i _;rfl
  | cons x l ih=>
    intro i h
    simp only[AV.plainL,Bool.and_eq_true]at h
    simp only[frzArgs,fz_plain H h.1,ih (i+1) h.2]
    split<;>simp_all
 rw[call_eq]
 unfold evStep
 rw[if_pos hp]
 simp only[hf args 0 ha,underL_plain 0 args ha,if_true,h,rebase,under_plain 0 r hr]
theorem guardW_boolT {d:Nat}{b:Bool}{t:Tm}{X Y:Tm→Prop} {τ}:guardW (d,.bool b) true t X Y τ=splitB b (X (upd d (.bool true) t)) (Y (upd d (.bool false) t)) .mk:=by
 simp[guardW_bool]
theorem guardW_boolF {d:Nat}{b:Bool}{t:Tm}{X Y:Tm→Prop} {τ}:guardW (d,.bool b) false t X Y τ=splitB b (Y (upd d (.bool true) t)) (X (upd d (.bool false) t)) .mk:=by
 simp[guardW_bool]
theorem put_some {n:Nat}{t:Tm}{H:List MB}{i:Nat}{v:AV}:St.put ⟨n,t,H⟩ (some i) v=⟨n,if i<n then ins i v t else t,H⟩:=rfl
theorem put_none {n:Nat}{t:Tm}{H:List MB}{v:AV}:St.put ⟨n,t,H⟩ none v=⟨n,t,H⟩:=rfl
theorem ev_tmp {n:Nat}{t:Tm}{H:List MB}{i:Nat}:St.ev ⟨n,t,H⟩ (.tmp i)=lookD t i:=rfl
theorem ev_con {n:Nat}{t:Tm}{H:List MB}{v:Value}:St.ev ⟨n,t,H⟩ (.const v)=ofK v:=rfl
theorem ev_func {n:Nat}{t:Tm}{H:List MB}{f:Nat}:St.ev ⟨n,t,H⟩ (.func f)=.clo f []:=rfl
theorem ofK_int {k:IntKind}{n:Int}:ofK (.int k n)=.int k n:=rfl
theorem ofK_bool {b:Bool}:ofK (.bool b)=.bool b:=rfl
theorem ofK_str {b:ByteArray}:ofK (.string b)=.str b:=rfl
theorem ofK_agg {l:List Value}:ofK (.agg ⟨l⟩)=if l.all Value.oneCell' = true then .agg (l.map ofC) else .top:=rfl
theorem ofC_int {k:IntKind}{n:Int}:ofC (.int k n)=.int k n:=rfl
theorem ofC_bool {b:Bool}:ofC (.bool b)=.bool b:=rfl
theorem ofC_str {b:ByteArray}:ofC (.string b)=.str b:=rfl
theorem ofC_nil:ofC (.slice none 0 0)=.sl true []:=rfl
theorem ofC_nilp:ofC (.pointer none)=.nilp:=rfl
theorem one_int {k:IntKind}{n:Int}:Value.oneCell' (.int k n)=true:=rfl
theorem one_bool {b:Bool}:Value.oneCell' (.bool b)=true:=rfl
theorem one_str {b:ByteArray}:Value.oneCell' (.string b)=true:=rfl
theorem one_nil:Value.oneCell' (.slice none 0 0)=true:=rfl
theorem one_nilp:Value.oneCell' (.pointer none)=true:=rfl
theorem ofK_nil:ofK (.slice none 0 0)=.sl true []:=rfl
theorem frzArgs_plain {f:Nat} (hb:∀ i,pol.byref f i=false) (H:List MB):∀(l:List AV) (i:Nat),AV.plainL l=true→frzArgs pol f i l H=some (l,H)
 | [],_,_=>rfl
 | x::l,i,h=>by
   simp only[AV.plainL,Bool.and_eq_true]at h
   simp only[frzArgs,hb,Bool.false_eq_true,if_false,fz_plain H h.1,frzArgs_plain hb H l (i+1) h.2]
def retK (P:Program) (rs:List ResultVar) (r:AV):EX→St→Prop
 | .exit _,_=>False
 | _,s=>bindW (evResults P s rs) (fun vs=>∃ H',fz (packRes vs) s.h=some (r,H')) .mk
theorem retK_norm {rs r s}:retK P rs r .norm s=bindW (evResults P s rs) (fun vs=>∃ H',fz (packRes vs) s.h=some (r,H')) .mk:=rfl
theorem retK_ret {rs r s}:retK P rs r .ret s=bindW (evResults P s rs) (fun vs=>∃ H',fz (packRes vs) s.h=some (r,H')) .mk:=rfl
theorem fzEq {r r':AV}{H:List MB} (h:AV.plain r=true) (e:r=r'):(∃ H',fz r H=some (r',H')):=⟨H,e ▸ fz_plain H h⟩
theorem call_run {f:Nat}{args:List AV}{r:AV}{fn:Func}{c:Code} (hf:P.funcs[f]?=some fn) (hc:fn.body=some c) (hn:(fn.name == "runtime.NumGoroutine")=false)
  (hp:pol.pure f=true) (he:pol.ext f=none) (hk:pol.keep f=false) (ho:pol.own f=false) (hb:∀ i,pol.byref f i=false)
  (ha:AV.plainL args=true) (hr:AV.plain r=true)
  (h:W P (call P pol) itL (pol.muts f) (cfgOf pol f 0) c ⟨args.length+(fn.ntmps-args.length),initT 0 args [],[]⟩ (retK P fn.results.toList r) .mk) (H:List MB) :
  call P pol f args H=some (r,H):=by
 refine call_plain hp ha hr ?_ H
 obtain⟨⟨e,s⟩,hev,hk2⟩:=h
 have fin:∀ {vs:List AV}{H':List MB},fz (packRes vs) s.h=some (r,H')→retPol pol f [] (packRes vs) s.h=some (r,[]):=by
  intro vs H' hz
  unfold retPol
  simp only[hk,ho,Bool.false_eq_true,if_false,hz,List.length_nil,under_plain 0 r hr,keptOk_zero [] H',and_self,if_true,List.take_zero]
 unfold evBody
 simp only[he,hf,hc]
 rw[if_neg (by simpa using hn)]
 simp only[frzArgs_plain hb [] args 0 ha,List.length_nil,hev]
 cases e with
 | exit id=>exact hk2.elim
 | norm=>
   obtain⟨vs,h1,H',h2⟩:=hk2
   simp only[h1];exact fin h2
 | ret=>
   obtain⟨vs,h1,H',h2⟩:=hk2
   simp only[h1];exact fin h2
theorem prep_cut {m:Msk}{n k:Nat}{t t':Tm}{h h':List MB} (hz:m.acts=[]) (hg:m.gc=some n) (hc:keepT m.k t=t') (he:h.take n=h') (ht:AV.underL n (t'.map (·.2))=true) (hh:h'.all (MB.under n)=true) :
  prep m ⟨k,t,h⟩=⟨k,t',h'⟩:=by
 subst he
 unfold prep prepG
 simp only[hz,actL,hg,hc,ht,hh,and_self,if_true]
theorem look_hit {d:Nat}{v:AV}{t:Tm}:look ((d,v)::t) d=some v:=by simp[look]
theorem lookD_hit {d:Nat}{v:AV}{t:Tm}:lookD ((d,v)::t) d=v:=by simp[lookD,look]
theorem lookD_cons {k d:Nat}{v:AV}{t:Tm}:lookD ((k,v)::t) d=if k=d then v else lookD t d:=by
 by_cases h:k=d<;>simp[lookD,look,h]
theorem lookD_nil {d:Nat}:lookD [] d=.top:=rfl
theorem ins_hit {d:Nat}{u v:AV}{t:Tm}:ins d v ((d,u)::t)=(d,v)::t:=by simp[ins]
theorem upd_hit {d:Nat}{u v:AV}{t:Tm}:upd d v ((d,u)::t)=(d,v)::t:=by simp[upd]
theorem rem1_hit {d:Nat}{u:AV}{t:Tm}:rem1 d ((d,u)::t)=t:=by simp[rem1]
theorem dropSt_eq {n:Nat}{l:List Nat}{t:Tm}{H:List MB}:dropSt l ⟨n,t,H⟩=⟨n,dropT l t,H⟩:=rfl
theorem cfg_dd {f n:Nat}:(cfgOf pol f n).dd=pol.dead f:=rfl
theorem cfg_ra {f n:Nat}:(cfgOf pol f n).ra=pol.racts f:=rfl
theorem actL_nil {s:St}:actL [] s=s:=rfl
theorem actL_cons {a:SA}{l:List SA}{s:St}:actL (a::l) s=actL l (act1 s a):=rfl
theorem updT_hit {d:Nat}{u v:AV}{t:Tm}:updT d v ((d,u)::t)=(d,v)::t:=by simp[updT]
theorem cfg_bd {f n:Nat}:(cfgOf pol f n).bd=pol.bdead f:=rfl
theorem W_condK {b:Bool}{x y:Code}{s:St}{Q:EX→St→Prop} {τ}:W P cf it mu m (.cond (.const (.bool b)) x y) s Q τ=if b=true then W P cf it mu m x s Q .mk else W P cf it mu m y s Q .mk:=by
 have e:s.ev (.const (.bool b))=.bool b:=rfl
 simp only[W,evCode,e]
 cases b<;>simp
end Go.Ev
namespace Go.Ev
open Go.RowKit Go.IntWalk
section
variable {a b:Int}
theorem dlt_t (h:a<b):decide (a<b)=true:=decide_eq_true h
theorem dlt_f (h:b≤a):decide (a<b)=false:=decide_eq_false (by omega)
theorem dle_t (h:a≤b):decide (a≤b)=true:=decide_eq_true h
theorem dle_f (h:b<a):decide (a≤b)=false:=decide_eq_false (by omega)
theorem dgt_t (h:b<a):decide (a > b)=true:=decide_eq_true h
theorem dgt_f (h:a≤b):decide (a > b)=false:=decide_eq_false (by omega)
theorem dge_t (h:b≤a):decide (a ≥ b)=true:=decide_eq_true h
theorem dge_f (h:a<b):decide (a ≥ b)=false:=decide_eq_false (by omega)
theorem beq_t (h:a=b):(a==b)=true:=by simp[h]
theorem beq_f (h:a≠b):(a==b)=false:=by simp[h]
theorem bne_t (h:a≠b):(a != b)=true:=by simp[h]
theorem bne_f (h:a=b):(a != b)=false:=by simp[h]
theorem lt_T (h:a<b):(a<b)=True:=by simp[h]
theorem le_T (h:a≤b):(a≤b)=True:=by simp[h]
end
theorem nle_T {a b:Nat} (h:a≤b):(a≤b)=True:=by simp[h]
theorem nle_F {a b:Nat} (h:b<a):(a≤b)=False:=by simp;omega
theorem wrap_up {a:Nat} (h:a≤4611686018427387904):IntKind.i64.wrap ((a:Int)+1)=((a+1:Nat):Int):=by rw[i64_in];rfl;omega
theorem wrap_down {a:Nat} (h:a≤4611686018427387904):IntKind.i64.wrap (((a+1:Nat):Int)-1)=(a:Int):=by rw[i64_in]<;>omega
theorem wrap_pred {a:Nat} (h:0<a∧a≤4611686018427387904):IntKind.i64.wrap ((a:Int)-1)=((a-1:Nat):Int):=by rw[i64_in]<;>omega
theorem wrap_sub_nat {a b:Nat} (h:b≤a∧a≤4611686018427387904):IntKind.i64.wrap ((a:Int)-(b:Int))=((a-b:Nat):Int):=by rw[i64_in]<;>omega
section
variable {α:Type} (a0 a1 a2 a3 a4 a5 a6 a7 a8 a9 a10 a11 a12 a13 a14 a15:α) (t:List α) (n:Nat)
theorem getElem_16:(a0::a1::a2::a3::a4::a5::a6::a7::a8::a9::a10::a11::a12::a13::a14::a15::t)[n+16]?=t[n]?:=by simp
end
section
variable {α:Type} (a0 a1 a2 a3:α) (t:List α) (n:Nat)
theorem set_4 (v:α):(a0::a1::a2::a3::t).set (n+4) v=a0::a1::a2::a3::t.set n v:=rfl
theorem getElem_4:(a0::a1::a2::a3::t)[n+4]?=t[n]?:=by simp
theorem set_0 (a v:α):(a::t).set 0 v=v::t:=rfl
theorem set_1 (a b v:α):(a::b::t).set 1 v=a::v::t:=rfl
theorem set_2 (a b c v:α):(a::b::c::t).set 2 v=a::b::v::t:=rfl
theorem set_3 (a b c d v:α):(a::b::c::d::t).set 3 v=a::b::c::v::t:=rfl
end
variable {P:Program}{pol:Pol}
theorem call_run2 {f:Nat}{args as:List AV}{H H1:List MB}{r:AV×List MB}{fn:Func}{c:Code} (hf:P.funcs[f]?=some fn) (hc:fn.body=some c) (hn:(fn.name == "runtime.NumGoroutine")=false)
  (hp:pol.pure f=false) (he:pol.ext f=none) (ha:frzArgs pol f 0 args H=some (as,H1))
  (h:W P (call P pol) itL (pol.muts f) (cfgOf pol f H1.length) c ⟨as.length+(fn.ntmps-as.length),initT 0 as [],H1⟩ (endK P pol f H1 fn.results.toList r) .mk) (hy:f≠yldF:=by decide) :
  call P pol f args H=some r:=by
 rw[call_eq]
 unfold evStep
 rw[if_neg (by simp[hp]),if_neg hy]
 refine evBody_of he hf hc hn ?_
 rw[ha,bindW_some]
 exact h
theorem retPol_keep {f:Nat}{H1 H H':List MB}{r:AV} (hk:pol.keep f=false) (ho:pol.own f=false) (hr:AV.plain r=true) (h:keptOk H1.length H1 H=true) (hh:H.take H1.length=H') :
  retPol pol f H1 r H=some (r,H'):=by
 unfold retPol
 simp only[hk,ho,Bool.false_eq_true,if_false,fz_plain H hr,under_plain _ r hr,h,and_self,if_true,hh]
theorem fzA_ms {n id k tot off len z:Nat}{H H':List MB}{els ys:List AV} (hr:getRow H id=some (k,els,z)) (h1:els.length=tot) (h2:off+len≤tot)
  (hp:fzL (fzJ n) ((els.drop off).take len) (mark H id (off+len))=some (ys,H')) :
  fzA (fzJ (n+1)) (.ms id k tot off len) H=some (.sl false ys,H'):=by
 simp only[fzA,hr,h1,h2,and_self,if_true,fzJ,hp]
end Go.Ev
namespace Go.Ev
open Go.RowKit Go.IntWalk
variable {P:Program}{pol:Pol}
theorem toList_some {α:Type} (a:α):(some a).toList=[a]:=rfl
def retE (P:Program) (rs:List ResultVar) (Post:AV→Prop):EX→St→Prop
 | .exit _,_=>False
 | _,s=>bindW (evResults P s rs) (fun vs=>∃ r,Post r∧∃ H',fz (packRes vs) s.h=some (r,H')) .mk
theorem retE_norm {rs}{Post:AV→Prop} {s}:retE P rs Post .norm s=bindW (evResults P s rs) (fun vs=>∃ r,Post r∧∃ H',fz (packRes vs) s.h=some (r,H')) .mk:=rfl
theorem retE_ret {rs}{Post:AV→Prop} {s}:retE P rs Post .ret s=bindW (evResults P s rs) (fun vs=>∃ r,Post r∧∃ H',fz (packRes vs) s.h=some (r,H')) .mk:=rfl
end Go.Ev
namespace Go.Ev
open Go.RowKit Go.IntWalk
variable {P:Program}{pol:Pol}
theorem call_runA {f:Nat}{args:List AV}{Post:AV→Prop}{fn:Func}{c:Code} (hf:P.funcs[f]?=some fn) (hc:fn.body=some c) (hn:(fn.name == "runtime.NumGoroutine")=false)
  (hp:pol.pure f=true) (he:pol.ext f=none) (hk:pol.keep f=false) (ho:pol.own f=false) (hb:∀ i,pol.byref f i=false)
  (ha:AV.plainL args=true) (hr:∀ r,Post r→AV.plain r=true)
  (h:W P (call P pol) itL (pol.muts f) (cfgOf pol f 0) c ⟨args.length+(fn.ntmps-args.length),initT 0 args [],[]⟩ (retE P fn.results.toList Post) .mk) :
  ∃ r,Post r∧∀ H,call P pol f args H=some (r,H):=by
 obtain⟨⟨e,s⟩,h1,h2⟩:=h
 have key:∃ r,Post r∧retK P fn.results.toList r e s:=by
  cases e with
  | exit id=>exact h2.elim
  | norm=>
    obtain⟨vs,a,r,b,c⟩:=h2
    exact⟨r,b,vs,a,c⟩
  | ret=>
    obtain⟨vs,a,r,b,c⟩:=h2
    exact⟨r,b,vs,a,c⟩
 obtain⟨r,hP,hret⟩:=key
 exact⟨r,hP,call_run hf hc hn hp he hk ho hb ha (hr r hP) ⟨(e,s),h1,hret⟩⟩
end Go.Ev
namespace Go.Ev
open Go.RowKit Go.IntWalk
variable {P:Program}{pol:Pol}
theorem sameAt_zero (x:MB) (l l':List MB):sameAt 0 (x::l) (x::l')=true:=by simp[sameAt,MB.beq_refl]
theorem sameAt_two (x y x':MB) (l l':List MB):sameAt 1 (x::y::l) (x'::y::l')=true:=by simp[sameAt,MB.beq_refl]
theorem sameAt_three (x y z x' y':MB) (l l':List MB):sameAt 2 (x::y::z::l) (x'::y'::z::l')=true:=by simp[sameAt,MB.beq_refl]
theorem sameAt_four (x y z u x' y' z':MB) (l l':List MB):sameAt 3 (x::y::z::u::l) (x'::y'::z'::u::l')=true:=by simp[sameAt,MB.beq_refl]
theorem sameAt_five (x y z u v x' y' z' u':MB) (l l':List MB):sameAt 4 (x::y::z::u::v::l) (x'::y'::z'::u'::v::l')=true:=by simp[sameAt,MB.beq_refl]
theorem room_ok {n b:Nat} (h:n≤4000000000) (hb:b≤8000):roomFor n b=true:=by
 have:n*b≤4000000000*8000:=Nat.mul_le_mul h hb
 simp[roomFor];omega
theorem take_len {α:Type}{l:List α}{n:Nat} (h:l.length=n):l.take n=l:=List.take_of_length_le (Nat.le_of_eq h)
theorem fzA_row {n id k tot z:Nat}{H:List MB}{els:List AV} (hr:getRow H id=some (k,els,z)) (h1:els.length=tot) (hp:AV.plainL els=true) :
  fzA (fzJ (n+1)) (.ms id k tot 0 tot) H=some (.sl false els,mark H id tot):=by
 have:=fzA_ms (n:=n) (off:=0) (len:=tot) (ys:=els) (H':=mark H id (0+tot)) hr h1 (by omega) (by rw[List.drop_zero,take_len h1];exact fzL_plain _ _ _ hp)
 rwa [Nat.zero_add]at this
theorem fz_row {id k tot z:Nat}{H:List MB}{els:List AV} (hr:getRow H id=some (k,els,z)) (h1:els.length=tot) (hp:AV.plainL els=true) :
 fz (.ms id k tot 0 tot) H=some (.sl false els,mark H id tot):=fzA_row hr h1 hp
theorem head_take1 {α:Type} (n:Nat) (l:List α):(l.take (n+1)).head?=l.head?:=by cases l<;>simp
variable {P:Program}{pol:Pol}
def endE (P:Program) (pol:Pol) (f:Nat) (H1:List MB) (rs:List ResultVar) (Post:AV×List MB→Prop):EX→St→Prop
 | .exit _,_=>False
 | _,s=>bindW (evResults P s rs) (fun vs=>∃ r,Post r∧retPol pol f H1 (packRes vs) s.h=some r) .mk
theorem endE_norm {f H1 rs}{Post:AV×List MB→Prop} {s}:endE P pol f H1 rs Post .norm s=bindW (evResults P s rs) (fun vs=>∃ r,Post r∧retPol pol f H1 (packRes vs) s.h=some r) .mk:=rfl
theorem endE_ret {f H1 rs}{Post:AV×List MB→Prop} {s}:endE P pol f H1 rs Post .ret s=bindW (evResults P s rs) (fun vs=>∃ r,Post r∧retPol pol f H1 (packRes vs) s.h=some r) .mk:=rfl
end Go.Ev
namespace Go.Ev
open Go.RowKit Go.IntWalk
variable {P:Program}{pol:Pol}
inductive KeepL (j:List AV→List MB→Option (List AV×List MB)):List AV→List AV→Prop where
 | nil:KeepL j [] []
 | cons {x y:AV}{a b:List AV} (h:∀ H,fzA j x H=some (y,H)) (t:KeepL j a b):KeepL j (x::a) (y::b)
theorem KeepL.fz {j:List AV→List MB→Option (List AV×List MB)}{a b:List AV} (h:KeepL j a b) (H:List MB):fzL j a H=some (b,H):=by
 induction h with
 | nil=>rfl
 | cons h _ ih=>simp only[fzL,h,ih]
theorem KeepL.append {j:List AV→List MB→Option (List AV×List MB)}{a b c d:List AV} (h:KeepL j a b) (h2:KeepL j c d):KeepL j (a++c) (b++d):=by
 induction h with
 | nil=>exact h2
 | cons h _ ih=>exact .cons h ih
theorem KeepL.plain {j:List AV→List MB→Option (List AV×List MB)}:∀ {a:List AV},AV.plainL a=true→KeepL j a a
 | [],_=>.nil
 | x::a,h=>by
   simp only[AV.plainL,Bool.and_eq_true]at h
   exact .cons (fun H=>fzA_plain j x H h.1) (KeepL.plain h.2)
theorem KeepL.one {j:List AV→List MB→Option (List AV×List MB)}{x y:AV} (h:∀ H,fzA j x H=some (y,H)):KeepL j [x] [y]:=.cons h .nil
theorem KeepL.len {j:List AV→List MB→Option (List AV×List MB)}{a b:List AV} (h:KeepL j a b):b.length=a.length:=by
 induction h with
 | nil=>rfl
 | cons _ _ ih=>simp[ih]
theorem evAppend_end {H:List MB}{sT xT e k by_ id n z:Nat}{ze x:AV}{els ys:List AV} (he:tyElem P sT=some e) (hxT:tyNotInt P xT=true) (hk:tySz P e=some k) (hby:tyBytes P e=some by_) (hze:tyZero P e=some ze) (hzl:ze.cells.length=k) (hk0:0<k)
  (hs:srcElems P H e x=some ys) (hw:ys.all (fun y=>decide (y.cells.length=k)&&y.cells.all AV.ok)=true) (hr:getRow H id=some (k,els,z)) (hl:els.length=n) (hz:z≤n) (hroom:roomFor (n+ys.length) by_=true) :
  evAppend P H sT xT (.ms id k n 0 n) x=some (.ms id k (n+ys.length) 0 (n+ys.length),H.set id (.row k (els++ys) z)):=by
 unfold evAppend
 simp only[he,hxT,hk,hby,hze,hs]
 rw[if_pos ⟨hw,hk0,hzl⟩]
 simp only[hr]
 rw[if_pos ⟨hl,trivial,trivial,by omega⟩]
 have hid:=(List.getElem?_eq_some_iff.1 (getRow_eq hr)).1
 cases ys with
 | nil=>
   simp only[List.length_nil,Nat.add_zero,List.append_nil]
   have:H.set id (.row k els z)=H:=by
    apply List.ext_getElem?
    intro q
    by_cases e:id=q
    ·subst e;rw[List.getElem?_set_self hid,getRow_eq hr]
    ·rw[List.getElem?_set_ne e]
   rw[this]
 | cons y ys=>
   simp only[]
   rw[if_pos ⟨by omega,hroom⟩,if_neg (by simp)]
   have ht:els.take (0+n)=els:=List.take_of_length_le (by omega)
   rw[ht]
   simp
end Go.Ev
