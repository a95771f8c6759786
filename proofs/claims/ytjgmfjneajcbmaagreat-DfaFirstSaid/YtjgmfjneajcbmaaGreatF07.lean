/- Evaluation without fuel: the limit of evaluation with ever more of it. -/
import Derived.Test.YtjgmfjneajcbmaaGreatF06
import Derived.IntWalk
import Derived.Attr
set_option linter.unusedVariables false
set_option linter.unusedSimpArgs false
open Bool (and_eq_true false_eq_true)
open List (length_nil nil_append take_of_length_le)
namespace Go.Ev
open Go.RowKit
variable {P:Program}{pol:Pol}{cf cf':CF}{it:It}{mu:List Nat}{m:Cfg}
theorem CR {b b':St->Option (EX×St)} (h:∀ s r,b s=some r->b' s=some r) (m:Msk):∀(n n':Nat) (s:St) (r:EX×St),n<=n'->iterN b m n s=some r->iterN b' m n' s=some r
 | 0,n',s,r,_,h1=>by simp[iterN]at h1
 | n+1,0,s,r,hn,_=>by omega
 | n+1,n' + 1,s,r,hn,h1=>by
   simp only[iterN]at h1 |-;cases hb:b (prep m s) with
   | none=>rw[hb]at h1;simp at h1
   | some q=>
     rw[hb]at h1;rw[h _ _ hb];obtain⟨e,s'⟩:=q;cases e with
     | norm=>exact CR h m n n' s' r (by omega) h1
     | exit id=>exact h1
     | ret=>exact h1
open Classical in
noncomputable def itL:It:=fun b m s=>if h:∃ r,∃ n,iterN b m n s=some r then some h.choose else none
theorem C4 {b:St->Option (EX×St)}{m:Msk}{s:St}{r:EX×St}:itL b m s=some r↔∃ n,iterN b m n s=some r:=by
 unfold itL;constructor
 ·intro h;split at h
  ·rename_i hx;simp at h;subst h;exact hx.choose_spec
  ·simp at h
 ·rintro⟨n,hn⟩;rw[dif_pos ⟨r,n,hn⟩];obtain⟨n',hn'⟩:=(show ∃ r,∃ n,iterN b m n s=some r from⟨r,n,hn⟩).choose_spec;have h1:=CR (b:=b) (fun _ _ h=>h) m n (n+n') s r (by omega) hn;have h2:=CR (b:=b) (fun _ _ h=>h) m n' (n+n') s _ (by omega) hn';rw[h1]at h2;exact h2.symm
theorem Bw:ItOk itL:=fun _ _ _ _ h=>C4.1 h
theorem Ls (b:St->Option (EX×St)) (m:Msk) (s:St):itL b m s=match b (prep m s) with
  | some (.norm,s')=>itL b m s'
  | r=>r:=by
 apply Option.ext;intro r;rw[C4];cases hb:b (prep m s) with
 | none=>
   simp only[];constructor
   ·rintro⟨n,hn⟩;cases n with
    | zero=>simp[iterN]at hn
    | succ n=>simp[iterN,hb]at hn
   ·intro h;simp at h
 | some q=>
   obtain⟨e,s'⟩:=q;cases e with
   | norm=>
     simp only[];rw[C4];constructor
     ·rintro⟨n,hn⟩;cases n with
      | zero=>simp[iterN]at hn
      | succ n=>exact⟨n,by simpa [iterN,hb] using hn⟩
     ·rintro⟨n,hn⟩;exact⟨n+1,by simpa [iterN,hb] using hn⟩
   | exit id=>
     constructor
     ·rintro⟨n,hn⟩;cases n with
      | zero=>simp[iterN]at hn
      | succ n=>simpa [iterN,hb] using hn
     ·intro h;exact⟨1,by simpa [iterN,hb] using h⟩
   | ret=>
     constructor
     ·rintro⟨n,hn⟩;cases n with
      | zero=>simp[iterN]at hn
      | succ n=>simpa [iterN,hb] using hn
     ·intro h;exact⟨1,by simpa [iterN,hb] using h⟩
def CLe (cf cf':CF):Prop:=∀ f args H r,cf f args H=some r->cf' f args H=some r
def ItLe (it it':It):Prop:=∀ b b' m s r,(∀ s r,b s=some r->b' s=some r)->it b m s=some r->it' b' m s=some r
theorem Dv:ItLe itL itL:=fun b b' m s r h h1=>by
 rw[C4]at h1 |-;obtain⟨n,hn⟩:=h1;exact⟨n,CR h m n n s r (Nat.le_refl _) hn⟩
theorem Qv (n:Nat):ItLe (fun b m s=>iterN b m n s) itL:=fun b b' m s r h h1=>C4.2 ⟨n,CR h m n n s r (Nat.le_refl _) h1⟩
theorem He (h:CLe cf cf') {g:Nat}{args:List AV}{H:List MB}{r:AV×List MB} (h1:cfn cf g args H=some r):cfn cf' g args H=some r:=by
 unfold cfn at h1 |-;split at h1
 ·cases h1
 ·rename_i hg;rw[if_neg hg];exact h _ _ _ _ h1
theorem Ji (h:CLe cf cf'):CLe (evAlone cf) (evAlone cf'):=by
 intro f args H r h1;unfold evAlone at h1 |-;split at h1
 ·rename_i hu;split at h1
  ·rename_i r0 h0;rw[if_pos hu,h _ _ _ _ h0];exact h1
  ·cases h1
 ·cases h1
theorem Kr (h:CLe cf cf'):CLe (evThaw cf) (evThaw cf'):=by
 intro f args H r h1;unfold evThaw at h1 |-;split at h1
 ·rename_i as ha;split at h1
  ·rename_i k n K h0;rw[h _ _ _ _ h0];exact h1
  ·cases h1
 ·cases h1
theorem NO (h:CLe cf cf') {ρ:Operand->AV}{H:List MB}{o:Oper}{r:AV×List MB} (h1:evOp P cf mu ρ H o=some r):evOp P cf' mu ρ H o=some r:=by
 obtain⟨dst,op,type,pos,after,guard⟩:=o;cases op
 case makeFunc fn first cap=>cases fn<;>exact h1
 case call c=>
  obtain⟨callee,args,ats⟩:=c;cases callee with
  | builtin b=>exact h1
  | invoke x y=>exact h1
  | value f=>
    have key:∀ {c1 c2:CF},CLe c1 c2->evCall c1 ρ H type ⟨.value f,args,ats⟩=some r->evCall c2 ρ H type ⟨.value f,args,ats⟩=some r:=by
     intro c1 c2 h h1;simp only[evCall]at h1 |-;split at h1
     ·exact He h h1
     ·exact He h h1
     ·exact h _ _ _ _ h1
     ·simp at h1
    simp only[evOp]at h1 |-;split at h1
    ·rename_i hi;rw[if_pos hi];exact key (Ji h) h1
    ·rename_i hi;rw[if_neg hi];split at h1
     ·rename_i hj;rw[if_pos hj];exact key (Kr h) h1
     ·rename_i hj;rw[if_neg hj];exact key h h1
 all_goals exact h1
theorem CU (h:CLe cf cf') {ops:List Oper}{o:Oper}{s s':St} (h1:evOne P cf mu ops o s=some s'):evOne P cf' mu ops o s=some s':=by
 unfold evOne at h1 |-;split at h1
 ·split at h1
  ·rename_i v H hop;simp only[NO h hop];exact h1
  ·simp at h1
 ·exact h1
 ·simp at h1
theorem Ek (h:CLe cf cf') {ops:List Oper}:∀(l:List Oper) {s s':St},evOps P cf mu ops l s=some s'->evOps P cf' mu ops l s=some s'
 | [],s,s',h1=>h1
 | o::l,s,s',h1=>by
   simp only[evOps]at h1 |-;split at h1
   ·rename_i s1 hs;rw[CU h hs];exact Ek h l h1
   ·simp at h1
theorem Cd (h:CLe cf cf') {ops:List Oper}:∀(l:List Oper) (i:Nat) {s:St}{r:List (Nat×FP)×St},evOpsD P cf mu ops i l s=some r->evOpsD P cf' mu ops i l s=some r
 | [],i,s,r,h1=>h1
 | o::l,i,s,r,h1=>by
   simp only[evOpsD]at h1 |-;split at h1
   ·rename_i b hb;split at h1
    ·rename_i s1 hs;rw[CU h hs];simp only[];split at h1
     ·rename_i fl s2 h2;rw[Cd h l (i+1) h2];exact h1
     ·simp at h1
    ·simp at h1
   ·simp at h1
theorem DH (h:CLe cf cf') {ops:List Oper}:∀(l:List Nat) {s:St}{r:List (Nat×FP)×St},evOpsI P cf mu ops l s=some r->evOpsI P cf' mu ops l s=some r
 | [],s,r,h1=>h1
 | i::l,s,r,h1=>by
   simp only[evOpsI]at h1 |-;split at h1
   ·simp at h1
   ·rename_i o ho;split at h1
    ·rename_i b hb;split at h1
     ·rename_i s1 hs;rw[CU h hs];simp only[];split at h1
      ·rename_i fl s2 h2;rw[DH h l h2];exact h1
      ·simp at h1
     ·simp at h1
    ·simp at h1
theorem H6 (h:CLe cf cf') {ops:Array Oper}{al:Option (Nat×Nat×List Nat)}{d:Bool}{s s':St} (h1:evRegion P cf mu ops al d s=some s'):evRegion P cf' mu ops al d s=some s':=by
 unfold evRegion at h1 |-;split at h1
 ·rename_i hd;rw[if_pos hd];split at h1
  ·split at h1
   ·rename_i fl s1 h2;rw[Cd h _ _ h2];exact h1
   ·simp at h1
  ·split at h1
   ·rename_i fl s1 h2;rw[Cd h _ _ h2];simp only[];split at h1
    ·rename_i fl2 s2 h3;rw[DH h _ h3];exact h1
    ·simp at h1
   ·simp at h1
 ·rename_i hd;rw[if_neg hd];exact Ek h _ h1
theorem BI (h:CLe cf cf') {it it':It} (hi:ItLe it it'):∀(c:Code) {s:St}{r:EX×St},evCode P cf it mu m c s=some r->evCode P cf' it' mu m c s=some r
 | .skip,s,r,h1=>h1
 | .label _,s,r,h1=>h1
 | .region _ ops d,s,r,h1=>by
   simp only[evCode]at h1 |-;cases hr:evRegion P cf mu ops (m.al _) d s with
   | none=>rw[hr]at h1;simp at h1
   | some s1=>rw[hr]at h1;rw[H6 h hr];exact h1
 | .seq a b,s,r,h1=>by
   simp only[evCode]at h1 |-;cases ha:evCode P cf it mu m a s with
   | none=>rw[ha]at h1;simp at h1
   | some q=>
     rw[ha]at h1;rw[BI h hi a ha];obtain⟨e,s1⟩:=q;cases e with
     | norm=>exact BI h hi b h1
     | exit id=>exact h1
     | ret=>exact h1
 | .cond c x y,s,r,h1=>by
   simp only[evCode]at h1 |-;split at h1
   ·exact BI h hi x h1
   ·exact BI h hi y h1
   ·simp at h1
 | .block id b,s,r,h1=>by
   simp only[evCode]at h1 |-;cases hb:evCode P cf it mu m b s with
   | none=>rw[hb]at h1;simp at h1
   | some q=>
     rw[hb]at h1;rw[BI h hi b hb];exact h1
 | .loop b,s,r,h1=>by
   simp only[evCode]at h1 |-;exact hi _ _ _ _ _ (fun s r hh=>BI h hi b hh) h1
 | .scope b,s,r,h1=>by
   simp only[evCode]at h1 |-;exact BI h hi b h1
 | .exit _,s,r,h1=>h1
 | .ret,s,r,h1=>h1
 | .rangeFunc _ _ _ b,s,r,h1=>by
   simp only[evCode]at h1 |-;split at h1
   ·rename_i f hh cs hmf hg;split at h1
    ·rename_i v H' hc;rw[He h hc];exact h1
    ·cases h1
   ·cases h1
 | .goto _,s,r,h1=>by simp[evCode]at h1
 | .refuse _,s,r,h1=>by simp[evCode]at h1
theorem F7 (h:CLe cf cf') {it it':It} (hi:ItLe it it'):CLe (evBody P pol cf it) (evBody P pol cf' it'):=by
 intro f args H r h1;unfold evBody at h1 |-;split at h1
 ·exact h1
 ·split at h1
  ·simp at h1
  ·rename_i fn hfn;split at h1
   ·simp at h1
   ·rename_i c hc;split at h1
    ·simp at h1
    ·rename_i hn;rw[if_neg hn];split at h1
     ·simp at h1
     ·rename_i as H1 hz;cases hev:evCode P cf it (pol.muts f) (cfgOf pol f H1.length) c { n:=as.length+(fn.ntmps-as.length),t:=initT 0 as [],h:=H1 } with
      | none=>rw[hev]at h1;simp at h1
      | some q=>
        rw[hev]at h1;rw[BI h hi c hev];exact h1
theorem Ja (h:CLe cf cf') {it it':It} (hi:ItLe it it') {args:List AV}{H:List MB}{r:AV×List MB} (h1:evYield P pol cf it args H=some r):evYield P pol cf' it' args H=some r:=by
 unfold evYield at h1 |-;split at h1
 ·split at h1
  ·rename_i hm;split at h1
   ·rename_i s hb;split at h1
    ·rename_i s1 hasg;rw[BI h hi _ hasg];simp only[];split at h1
     ·rename_i s2 hbeg;split at h1
      ·rename_i e s' hev;rw[BI h hi _ hev];exact h1
      ·cases h1
     ·cases h1
    ·cases h1
   ·cases h1
  ·cases h1
 ·cases h1
theorem Dx (h:CLe cf cf') {it it':It} (hi:ItLe it it'):CLe (evStep P pol cf it) (evStep P pol cf' it'):=by
 intro f args H r h1;unfold evStep at h1 |-;split at h1
 ·rename_i hp;rw[if_pos hp];split at h1
  ·rename_i as H1 hz;split at h1
   ·rename_i hu;rw[if_pos hu];cases hb:evBody P pol cf it f as [] with
    | none=>rw[hb]at h1;simp[rebase]at h1
    | some q=>
      rw[hb]at h1;rw[F7 h hi f as [] q hb];exact h1
   ·simp at h1
  ·simp at h1
 ·rename_i hp;rw[if_neg hp];split at h1
  ·rename_i hy;rw[if_pos hy];exact Ja h hi h1
  ·rename_i hy;rw[if_neg hy];exact F7 h hi f args H r h1
noncomputable def cL (P:Program) (pol:Pol):Nat->CF
 | 0=>fun _ _ _=>none
 | k+1=>evStep P pol (cL P pol k) itL
theorem QJ (k:Nat):CLe (cL P pol k) (cL P pol (k+1)):=by
 induction k with
 | zero=>intro f args H r h;simp[cL]at h
 | succ k ih=>exact Dx ih Dv
theorem B3 {k k':Nat} (h:k<=k'):CLe (cL P pol k) (cL P pol k'):=by
 induction h with
 | refl=>exact fun _ _ _ _ h=>h
 | step _ ih=>exact fun f a H r h=>QJ _ f a H r (ih f a H r h)
open Classical in
noncomputable def call (P:Program) (pol:Pol):CF:=fun f args H=>if h:∃ r,∃ k,cL P pol k f args H=some r then some h.choose else none
theorem CD {f:Nat}{args:List AV}{H:List MB}{r:AV×List MB}:call P pol f args H=some r↔∃ k,cL P pol k f args H=some r:=by
 unfold call;constructor
 ·intro h;split at h
  ·rename_i hx;simp at h;subst h;exact hx.choose_spec
  ·simp at h
 ·rintro⟨k,hk⟩;rw[dif_pos ⟨r,k,hk⟩];obtain⟨k',hk'⟩:=(show ∃ r,∃ k,cL P pol k f args H=some r from⟨r,k,hk⟩).choose_spec;have h1:=B3 (show k<=k+k' by omega) _ _ _ _ hk;have h2:=B3 (show k'<=k+k' by omega) _ _ _ _ hk';rw[h1]at h2;exact h2.symm
theorem MC (k:Nat):CLe (cL P pol k) (call P pol):=fun _ _ _ _ h=>CD.2 ⟨k,h⟩
theorem Jm {c1:CF}{c2:Nat->CF} (hc:∀ f as H r,c1 f as H=some r->∃ k,c2 k f as H=some r) {g:Nat}{args:List AV}{H:List MB}{r:AV×List MB} (h:cfn c1 g args H=some r):∃ k,cfn (c2 k) g args H=some r:=by
 unfold cfn at h;split at h
 ·cases h
 ·rename_i hg;obtain⟨k,hk⟩:=hc _ _ _ _ h;exact⟨k,by unfold cfn;rw[if_neg hg];exact hk⟩
theorem Fh {ops:List Oper}{o:Oper}{s s':St} (h:evOne P (call P pol) mu ops o s=some s'):∃ k,evOne P (cL P pol k) mu ops o s=some s':=by
 have hop:∀ {v},evOp P (call P pol) mu s.ev s.h o=some v->∃ k,evOp P (cL P pol k) mu s.ev s.h o=some v:=by
  intro v hv;obtain⟨dst,op,type,pos,after,guard⟩:=o;cases op
  case makeFunc fn first cap=>cases fn<;>exact⟨0,hv⟩
  case call c=>
   obtain⟨callee,args,ats⟩:=c;cases callee with
   | builtin b=>exact⟨0,hv⟩
   | invoke x y=>exact⟨0,hv⟩
   | value f=>
     have key:∀(c1:CF) (c2:Nat->CF),(∀ f as H r,c1 f as H=some r->∃ k,c2 k f as H=some r)->evCall c1 s.ev s.h type ⟨.value f,args,ats⟩=some v->∃ k,evCall (c2 k) s.ev s.h type ⟨.value f,args,ats⟩=some v:=by
      intro c1 c2 hc hv;simp only[evCall]at hv |-;split at hv
      ·rename_i g cs hg;exact Jm hc hv
      ·rename_i g cs hg;exact Jm hc hv
      ·exact hc _ _ _ _ hv
      ·simp at hv
     simp only[evOp]at hv |-;split at hv
     ·rename_i hi;simp only[if_pos hi];refine key (evAlone (call P pol)) (fun k=>evAlone (cL P pol k)) (fun f as H r h=>?_) hv;unfold evAlone at h;split at h
      ·rename_i hu;split at h
       ·rename_i r0 h0;obtain⟨k,hk⟩:=CD.1 h0;refine⟨k,?_⟩;unfold evAlone;rw[if_pos hu,show cL P pol k f as []=_ from hk];exact h
       ·cases h
      ·cases h
     ·rename_i hi;simp only[if_neg hi];split at hv
      ·rename_i hj;simp only[if_pos hj];refine key (evThaw (call P pol)) (fun k=>evThaw (cL P pol k)) (fun f as H r h=>?_) hv;unfold evThaw at h;split at h
       ·rename_i as' ha;split at h
        ·rename_i k0 n0 K h0;obtain⟨k,hk⟩:=CD.1 h0;refine⟨k,?_⟩;unfold evThaw;rw[ha];simp only[];rw[show cL P pol k f as' []=_ from hk];exact h
        ·cases h
       ·cases h
      rename_i hj;simp only[if_neg hj];exact key (call P pol) (fun k=>cL P pol k) (fun f as H r h=>CD.1 h) hv
  all_goals exact⟨0,hv⟩
 unfold evOne at h;split at h
 ·rename_i hw;split at h
  ·rename_i v H hv;obtain⟨k,hk⟩:=hop hv;exact⟨k,by unfold evOne;rw[hw];simp only[hk];exact h⟩
  ·simp at h
 ·rename_i hw;exact⟨0,by unfold evOne;rw[hw];exact h⟩
 ·simp at h
theorem Io {ops:List Oper}:∀(l:List Oper) {s s':St},evOps P (call P pol) mu ops l s=some s'->∃ k,evOps P (cL P pol k) mu ops l s=some s'
 | [],s,s',h=>⟨0,h⟩
 | o::l,s,s',h=>by
   simp only[evOps]at h;split at h
   ·rename_i s1 h1;obtain⟨k1,e1⟩:=Fh h1;obtain⟨k2,e2⟩:=Io l h;refine⟨k1+k2,?_⟩;simp only[evOps];rw[CU (B3 (by omega)) e1];exact Ek (B3 (by omega)) l e2
   ·simp at h
theorem Em {ops:List Oper}:∀(l:List Oper) (i:Nat) {s:St}{r:List (Nat×FP)×St},evOpsD P (call P pol) mu ops i l s=some r->∃ k,evOpsD P (cL P pol k) mu ops i l s=some r
 | [],i,s,r,h=>⟨0,h⟩
 | o::l,i,s,r,h=>by
   simp only[evOpsD]at h;split at h
   ·rename_i b hb;split at h
    ·rename_i s1 h1;split at h
     ·rename_i fl s2 h2;obtain⟨k1,e1⟩:=Fh h1;obtain⟨k2,e2⟩:=Em l (i+1) h2;refine⟨k1+k2,?_⟩;simp only[evOpsD];rw[hb,CU (B3 (by omega)) e1];simp only[];rw[Cd (B3 (show k2<=k1+k2 by omega)) l (i+1) e2];exact h
     ·simp at h
    ·simp at h
   ·simp at h
theorem HP {ops:List Oper}:∀(l:List Nat) {s:St}{r:List (Nat×FP)×St},evOpsI P (call P pol) mu ops l s=some r->∃ k,evOpsI P (cL P pol k) mu ops l s=some r
 | [],s,r,h=>⟨0,h⟩
 | i::l,s,r,h=>by
   simp only[evOpsI]at h;split at h
   ·simp at h
   ·rename_i o ho;split at h
    ·rename_i b hb;split at h
     ·rename_i s1 h1;split at h
      ·rename_i fl s2 h2;obtain⟨k1,e1⟩:=Fh h1;obtain⟨k2,e2⟩:=HP l h2;refine⟨k1+k2,?_⟩;simp only[evOpsI];rw[ho];simp only[];rw[hb,CU (B3 (by omega)) e1];simp only[];rw[DH (B3 (show k2<=k1+k2 by omega)) l e2];exact h
      ·simp at h
     ·simp at h
    ·simp at h
theorem Je {ops:Array Oper}{al:Option (Nat×Nat×List Nat)}{d:Bool}{s s':St} (h:evRegion P (call P pol) mu ops al d s=some s'):∃ k,evRegion P (cL P pol k) mu ops al d s=some s':=by
 unfold evRegion at h;split at h
 ·rename_i hd;split at h
  ·split at h
   ·rename_i fl s1 h2;obtain⟨k,e⟩:=Em _ _ h2;exact⟨k,by unfold evRegion;rw[if_pos hd];simp only[];rw[e];exact h⟩
   ·simp at h
  ·split at h
   ·rename_i fl s1 h2;split at h
    ·rename_i fl2 s2 h3;obtain⟨k1,e1⟩:=Em _ _ h2;obtain⟨k2,e2⟩:=HP _ h3;refine⟨k1+k2,?_⟩;unfold evRegion;rw[if_pos hd];simp only[];rw[Cd (B3 (show k1<=k1+k2 by omega)) _ _ e1];simp only[];rw[DH (B3 (show k2<=k1+k2 by omega)) _ e2];exact h
    ·simp at h
   ·simp at h
 ·rename_i hd;obtain⟨k,e⟩:=Io _ h;exact⟨k,by unfold evRegion;rw[if_neg hd];exact e⟩
theorem Bx:∀(c:Code) {s:St}{r:EX×St},evCode P (call P pol) itL mu m c s=some r->∃ k,evCode P (cL P pol k) itL mu m c s=some r
 | .skip,s,r,h=>⟨0,h⟩
 | .label _,s,r,h=>⟨0,h⟩
 | .region _ ops d,s,r,h=>by
   simp only[evCode]at h;cases hr:evRegion P (call P pol) mu ops (m.al _) d s with
   | none=>rw[hr]at h;simp at h
   | some s1=>
     obtain⟨k,e⟩:=Je hr;refine⟨k,?_⟩;rw[hr]at h;simp only[evCode,e];exact h
 | .seq a b,s,r,h=>by
   simp only[evCode]at h;cases ha:evCode P (call P pol) itL mu m a s with
   | none=>rw[ha]at h;simp at h
   | some q=>
     rw[ha]at h;obtain⟨k1,e1⟩:=Bx a ha;obtain⟨e,s1⟩:=q;cases e with
     | norm=>
       obtain⟨k2,e2⟩:=Bx b h;refine⟨k1+k2,?_⟩;simp only[evCode];rw[BI (B3 (show k1<=k1+k2 by omega)) Dv a e1];exact BI (B3 (show k2<=k1+k2 by omega)) Dv b e2
     | exit id=>exact⟨k1,by simp only[evCode,e1];exact h⟩
     | ret=>exact⟨k1,by simp only[evCode,e1];exact h⟩
 | .cond c x y,s,r,h=>by
   simp only[evCode]at h;split at h
   ·rename_i hc;obtain⟨k,e⟩:=Bx x h;exact⟨k,by simp only[evCode,hc];exact e⟩
   ·rename_i hc;obtain⟨k,e⟩:=Bx y h;exact⟨k,by simp only[evCode,hc];exact e⟩
   ·simp at h
 | .block id b,s,r,h=>by
   simp only[evCode]at h;cases hb:evCode P (call P pol) itL mu m b s with
   | none=>rw[hb]at h;simp at h
   | some q=>
     rw[hb]at h;obtain⟨k,e⟩:=Bx b hb;exact⟨k,by simp only[evCode,e];exact h⟩
 | .loop b,s,r,h=>by
   simp only[evCode]at h;rw[C4]at h;obtain⟨n,hn⟩:=h
   suffices hs:∀ n s,iterN (fun s=>evCode P (call P pol) itL mu m b s) (m.lp (loopId b)) n s=some r->∃ k,iterN (fun s=>evCode P (cL P pol k) itL mu m b s) (m.lp (loopId b)) n s=some r by
    obtain⟨k,e⟩:=hs n s hn;exact⟨k,by simp only[evCode];exact C4.2 ⟨n,e⟩⟩
   clear hn n;intro n
   induction n with
   | zero=>intro s hn;simp[iterN]at hn
   | succ n ih=>
     intro s hn;simp only[iterN]at hn;cases hb:evCode P (call P pol) itL mu m b (prep (m.lp (loopId b)) s) with
     | none=>rw[hb]at hn;simp at hn
     | some q=>
       rw[hb]at hn;obtain⟨k1,e1⟩:=Bx b hb;obtain⟨e,s1⟩:=q;cases e with
       | norm=>
         obtain⟨k2,e2⟩:=ih s1 hn;refine⟨k1+k2,?_⟩;simp only[iterN];rw[BI (B3 (show k1<=k1+k2 by omega)) Dv b e1];exact CR (fun s r hh=>BI (B3 (show k2<=k1+k2 by omega)) Dv b hh) (m.lp (loopId b)) n n s1 r (Nat.le_refl _) e2
       | exit id=>exact⟨k1,by simp only[iterN,e1];exact hn⟩
       | ret=>exact⟨k1,by simp only[iterN,e1];exact hn⟩
 | .scope b,s,r,h=>by
   simp only[evCode]at h;obtain⟨k,e⟩:=Bx b h;exact⟨k,by simp only[evCode];exact e⟩
 | .exit _,s,r,h=>⟨0,h⟩
 | .ret,s,r,h=>⟨0,h⟩
 | .rangeFunc _ _ _ b,s,r,h=>by
   simp only[evCode]at h;split at h
   ·rename_i f hh cs hmf hg;split at h
    ·rename_i v H' hc;obtain⟨k,hk⟩:=Jm (c2:=cL P pol) (fun f as H r h=>CD.1 h) hc;refine⟨k,?_⟩;simp only[evCode,hmf,hg,hk];exact h
    ·cases h
   ·cases h
 | .goto _,s,r,h=>by simp[evCode]at h
 | .refuse _,s,r,h=>by simp[evCode]at h
theorem HS {f:Nat}{args:List AV}{H:List MB}{r:AV×List MB} (h:evBody P pol (call P pol) itL f args H=some r):∃ k,evBody P pol (cL P pol k) itL f args H=some r:=by
 unfold evBody at h |-;split at h
 ·exact⟨0,h⟩
 ·split at h
  ·simp at h
  ·rename_i fn hfn;split at h
   ·simp at h
   ·rename_i c hc;split at h
    ·simp at h
    ·rename_i hn;split at h
     ·simp at h
     ·rename_i as H1 hz;cases hev:evCode P (call P pol) itL (pol.muts f) (cfgOf pol f H1.length) c { n:=as.length+(fn.ntmps-as.length),t:=initT 0 as [],h:=H1 } with
      | none=>rw[hev]at h;simp at h
      | some q=>
        obtain⟨k,e⟩:=Bx c hev;refine⟨k,?_⟩;rw[hev]at h;rw[if_neg hn,e];exact h
theorem Kq {args:List AV}{H:List MB}{r:AV×List MB} (h:evYield P pol (call P pol) itL args H=some r):∃ k,evYield P pol (cL P pol k) itL args H=some r:=by
 unfold evYield at h |-;split at h
 ·split at h
  ·rename_i hm;split at h
   ·rename_i s hb;split at h
    ·rename_i s1 hasg;split at h
     ·rename_i s2 hbeg;split at h
      ·rename_i e s' hev;obtain⟨k1,e1⟩:=Bx _ hasg;obtain⟨k2,e2⟩:=Bx _ hev;refine⟨k1+k2,?_⟩;rw[BI (B3 (show k1<=k1+k2 by omega)) Dv _ e1];simp only[];rw[hbeg];simp only[];rw[BI (B3 (show k2<=k1+k2 by omega)) Dv _ e2];exact h
      ·cases h
     ·cases h
    ·cases h
   ·cases h
  ·cases h
 ·cases h
theorem Bk:call P pol=evStep P pol (call P pol) itL:=by
 funext f args H
 apply Option.ext;intro r;constructor
 ·intro h;obtain⟨k,hk⟩:=CD.1 h;cases k with
  | zero=>simp[cL]at hk
  | succ k=>exact Dx (MC k) Dv f args H r hk
 ·intro h;rw[CD]
  suffices ∃ k,evStep P pol (cL P pol k) itL f args H=some r by
   obtain⟨k,e⟩:=this;exact⟨k+1,e⟩
  unfold evStep at h |-;split at h
  ·rename_i hp;split at h
   ·rename_i as H1 hz;split at h
    ·rename_i hu;cases hb:evBody P pol (call P pol) itL f as [] with
     | none=>rw[hb]at h;simp[rebase]at h
     | some q=>
       obtain⟨k,e⟩:=HS hb;rw[hb]at h;exact⟨k,by rw[if_pos hp,if_pos hu,e];exact h⟩
    ·simp at h
   ·simp at h
  ·rename_i hp;split at h
   ·rename_i hy;obtain⟨k,e⟩:=Kq h;exact⟨k,by rw[if_neg hp,if_pos hy];exact e⟩
   ·rename_i hy;obtain⟨k,e⟩:=HS h;exact⟨k,by rw[if_neg hp,if_neg hy];exact e⟩
theorem QI (hext:ExtOk P pol) (hm:P.follows .mixedOrders=true):CfOk P (call P pol):=by
 have hk:∀ k,CfOk P (cL P pol k):=by
  intro k
  induction k with
  | zero=>exact⟨fun f args H r H' _ h=>by simp[cL]at h,fun args H r H' h=>by simp[cL]at h⟩
  | succ k ih=>exact Jd hext ih Bw hm
 refine⟨fun f args H r H' hf h=>?_,fun args H r H' h=>?_⟩
 ·obtain⟨k,e⟩:=CD.1 h;exact(hk k).1 f args H r H' hf e
 ·obtain⟨k,e⟩:=CD.1 h;exact(hk k).2 args H r H' e
theorem GD {n:Nat}:∀(k:Nat),CLe (evF P pol n k) (call P pol)
 | 0=>fun f args H r h=>by simp[evF]at h
 | k+1=>fun f args H r h=>by
   rw[Bk];exact Dx (GD k) (Qv n) f args H r (by simpa [evF] using h)
universe u v
open Go.RowKit
variable {P:Program}{pol:Pol}{cf:CF}{it:It}{mu:List Nat}{m:Cfg}
structure Tag {α:Sort u} (a:α):Type where
structure Tag2 {α:Sort u} {β:Sort v} (a:α) (b:β):Type where
def bindW {α:Type} (o:Option α) (Q:α->Prop) (_t:Tag Q):Prop:=∃ v,o=some v/\Q v
theorem BF {α:Type} (v:α) (Q:α->Prop) (τ:Tag Q):bindW (some v) Q τ=Q v:=by simp[bindW]
theorem Dg {α:Type} (Q:α->Prop) (τ:Tag Q):bindW none Q τ=False:=by simp[bindW]
theorem Fp {α β:Type} (o:Option α) (f:α->β) (Q:β->Prop) (τ:Tag Q):bindW (o.map f) Q τ=bindW o (fun v=>Q (f v)) .mk:=by
 cases o<;>simp[bindW]
theorem Nd {α:Type} (c:Prop) [Decidable c] (a:Option α) (Q:α->Prop) (τ:Tag Q):bindW (if c then a else none) Q τ=(c/\bindW a Q .mk):=by
 by_cases h:c<;>simp[h,bindW]
theorem MF {α:Type} (c:Prop) [Decidable c] (a:Option α) (Q:α->Prop) (τ:Tag Q):bindW (if c then none else a) Q τ=(¬c/\bindW a Q .mk):=by
 by_cases h:c<;>simp[h,bindW]
def splitB (b:Bool) (X Y:Prop) (_t:Tag2 X Y):Prop:=(b=true->X)/\(b=false->Y)
section
variable (X Y:Prop) (τ:Tag2 X Y)
theorem CM:splitB true X Y τ=X:=by simp[splitB]
theorem CC:splitB false X Y τ=Y:=by simp[splitB]
theorem Ht (p:Prop) [Decidable p]:splitB (decide p) X Y τ=((p->X)/\(¬p->Y)):=by simp[splitB]
theorem Ld {α:Type} [DecidableEq α] (a b:α):splitB (a==b) X Y τ=((a=b->X)/\(a≠b->Y)):=by simp[splitB]
theorem Lc {α:Type} [DecidableEq α] (a b:α):splitB (a != b) X Y τ=((a≠b->X)/\(a=b->Y)):=by simp[splitB]
theorem Lb (b:Bool):splitB (!b) X Y τ=splitB b Y X .mk:=by cases b<;>simp[splitB]
end
def asB:AV->Option Bool
 | .bool b=>some b
 | _=>none
theorem LG (b:Bool):asB (.bool b)=some b:=rfl
def WO (P:Program) (cf:CF) (mu:List Nat) (ops rest:List Oper) (s:St) (Q:St->Prop) (_t:Tag2 rest Q):Prop:=bindW (evOps P cf mu ops rest s) Q .mk
theorem RF {ops:List Oper}{s:St}{Q:St->Prop} {τ}:WO P cf mu ops [] s Q τ=Q s:=by simp[WO,evOps,bindW]
theorem QQ {ops rest:List Oper} {dst op ty pos after}{n:Nat}{t:Tm}{H:List MB}{Q:St->Prop} {τ} :
  WO P cf mu ops (⟨dst,op,ty,pos,after,none⟩::rest) ⟨n,t,H⟩ Q τ =
   bindW (evOp P cf mu (St.ev ⟨n,t,H⟩) H ⟨dst,op,ty,pos,after,none⟩) (fun q=>WO P cf mu ops rest (St.put ⟨n,t,q.2⟩ dst q.1) Q .mk) .mk:=by
 simp only[WO,evOps,evOne,evWanted];cases h:evOp P cf mu (St.ev ⟨n,t,H⟩) H ⟨dst,op,ty,pos,after,none⟩ with
 | none=>simp[bindW]
 | some q=>simp[bindW]
def guardV (ops:List Oper) (j:Nat) (t:Tm):Option (Nat×AV):=
 match ops[j]? with
 | some q=>match q.dst with
   | some d=>(look t d).map fun v=>(d,v)
   | none=>some (0,.tup [])
 | none=>some (0,.tup [])
def upd (d:Nat) (v:AV):Tm->Tm
 | []=>[]
 | (k,u)::t=>if k=d then(k,v)::t else(k,u)::upd d v t
def guardW (q:Nat×AV) (w:Bool) (t:Tm) (X:Tm->Prop) (Y:Tm->Prop) (_t:Tag2 X Y):Prop:=
 match q.2 with
 | .bool b=>splitB b (if w=true then X (upd q.1 (.bool true) t) else Y (upd q.1 (.bool true) t)) (if w=false then X (upd q.1 (.bool false) t) else Y (upd q.1 (.bool false) t)) .mk
 | .tup []=>Y t
 | _=>False
theorem DE {d:Nat}{b w:Bool}{t:Tm}{X Y:Tm->Prop} {τ}:guardW (d,.bool b) w t X Y τ =
 splitB b (if w=true then X (upd d (.bool true) t) else Y (upd d (.bool true) t)) (if w=false then X (upd d (.bool false) t) else Y (upd d (.bool false) t)) .mk:=rfl
theorem C5 {d:Nat}{w:Bool}{t:Tm}{X Y:Tm->Prop} {τ}:guardW (d,.tup []) w t X Y τ=Y t:=rfl
theorem E5 {d:Nat}{v:AV}:∀ {t:Tm},look t d=some v->upd d v t=t
 | (k,u)::t,h=>by
   simp only[look]at h;simp only[upd];split
   ·rename_i e;rw[if_pos e]at h;simp at h;rw[h]
   ·rename_i e;rw[if_neg e]at h;rw[E5 h]
theorem PP {ops rest:List Oper} {dst op ty pos after}{j:Nat}{w:Bool}{n:Nat}{t:Tm}{H:List MB}{Q:St->Prop} {τ} :
  WO P cf mu ops (⟨dst,op,ty,pos,after,some (j,w)⟩::rest) ⟨n,t,H⟩ Q τ =
  bindW (guardV ops j t) (fun q=>guardW q w t
   (fun t=>bindW (evOp P cf mu (St.ev ⟨n,t,H⟩) H ⟨dst,op,ty,pos,after,none⟩) (fun q=>WO P cf mu ops rest (St.put ⟨n,t,q.2⟩ dst q.1) Q .mk) .mk)
   (fun t=>WO P cf mu ops rest (St.put ⟨n,t,H⟩ dst (.tup [])) Q .mk) .mk) .mk:=by
 have hop:∀ g,evOp P cf mu (St.ev ⟨n,t,H⟩) H ⟨dst,op,ty,pos,after,g⟩=evOp P cf mu (St.ev ⟨n,t,H⟩) H ⟨dst,op,ty,pos,after,none⟩:=fun g=>rfl
 have run:evWanted ops ⟨n,t,H⟩ ⟨dst,op,ty,pos,after,some (j,w)⟩=some true->WO P cf mu ops (⟨dst,op,ty,pos,after,some (j,w)⟩::rest) ⟨n,t,H⟩ Q τ =
   bindW (evOp P cf mu (St.ev ⟨n,t,H⟩) H ⟨dst,op,ty,pos,after,none⟩) (fun q=>WO P cf mu ops rest (St.put ⟨n,t,q.2⟩ dst q.1) Q .mk) .mk:=by
  intro h;simp only[WO,evOps,evOne,h,hop];cases evOp P cf mu (St.ev ⟨n,t,H⟩) H ⟨dst,op,ty,pos,after,none⟩<;>simp[bindW]
 have skip:evWanted ops ⟨n,t,H⟩ ⟨dst,op,ty,pos,after,some (j,w)⟩=some false->WO P cf mu ops (⟨dst,op,ty,pos,after,some (j,w)⟩::rest) ⟨n,t,H⟩ Q τ =
   WO P cf mu ops rest (St.put ⟨n,t,H⟩ dst (.tup [])) Q .mk:=by
  intro h;simp only[WO,evOps,evOne,h]
 have stuck:evWanted ops ⟨n,t,H⟩ ⟨dst,op,ty,pos,after,some (j,w)⟩=none->WO P cf mu ops (⟨dst,op,ty,pos,after,some (j,w)⟩::rest) ⟨n,t,H⟩ Q τ=False:=by
  intro h;simp only[WO,evOps,evOne,h,Dg]
 unfold guardV;cases hq0:ops[j]? with
 | none=>
   rw[skip (by simp[evWanted,hq0])];simp only[BF,C5]
 | some q=>
   simp only[];cases hd:q.dst with
   | none=>
     rw[skip (by simp[evWanted,hq0,hd])];simp only[BF,C5]
   | some d=>
     simp only[];cases htd:look t d with
     | none=>
       rw[stuck (by simp[evWanted,hq0,hd,htd])];simp[bindW]
     | some u=>
       simp only[Option.map_some,BF];have st:(∀ b,u≠.bool b)->u≠.tup []->evWanted ops ⟨n,t,H⟩ ⟨dst,op,ty,pos,after,some (j,w)⟩=none:=by
        intro h1 h2;simp only[evWanted,hq0,hd,htd];cases u with
        | bool b=>exact absurd rfl (h1 b)
        | tup l=>cases l with
          | nil=>exact absurd rfl h2
          | cons a l=>rfl
        | _=>rfl
       have ss:=E5 htd;cases u with
       | bool b=>
         rw[DE];cases b<;>cases w
         ·rw[run (by simp[evWanted,hq0,hd,htd]),CC,if_pos rfl,ss]
         ·rw[skip (by simp[evWanted,hq0,hd,htd])];simp[CC,ss]
         ·rw[skip (by simp[evWanted,hq0,hd,htd])];simp[CM,ss]
         ·rw[run (by simp[evWanted,hq0,hd,htd]),CM,if_pos rfl,ss]
       | tup l=>
         cases l with
         | nil=>rw[skip (by simp[evWanted,hq0,hd,htd])];rfl
         | cons a l=>rw[stuck (st (by simp) (by simp))];rfl
       | _=>rw[stuck (st (by simp) (by simp))];rfl
def W (P:Program) (cf:CF) (it:It) (mu:List Nat) (m:Cfg) (c:Code) (s:St) (Q:EX->St->Prop) (_t:Tag2 c Q):Prop:=
 bindW (evCode P cf it mu m c s) (fun q=>Q q.1 q.2) .mk
def thenK (k:St->Prop) (Q:EX->St->Prop):EX->St->Prop
 | .norm,s=>k s
 | e,s=>Q e s
theorem LV {k:St->Prop}{Q:EX->St->Prop}{s:St}:thenK k Q .norm s=k s:=rfl
theorem LW {k:St->Prop}{Q:EX->St->Prop}{s:St}{i:Nat}:thenK k Q (.exit i) s=Q (.exit i) s:=rfl
theorem Mx {k:St->Prop}{Q:EX->St->Prop}{s:St}:thenK k Q .ret s=Q .ret s:=rfl
def blockK (l:List Nat) (id:Nat) (Q:EX->St->Prop):EX->St->Prop
 | .exit i,s=>if i=id then Q .norm (dropSt l s) else Q (.exit i) s
 | .norm,s=>Q .norm (dropSt l s)
 | .ret,s=>Q .ret s
theorem LD {l:List Nat}{id:Nat}{Q:EX->St->Prop}{s:St}:blockK l id Q .norm s=Q .norm (dropSt l s):=rfl
theorem ME {l:List Nat}{id:Nat}{Q:EX->St->Prop}{s:St}:blockK l id Q .ret s=Q .ret s:=rfl
theorem LE {l:List Nat}{id i:Nat}{Q:EX->St->Prop}{s:St}:blockK l id Q (.exit i) s=if i=id then Q .norm (dropSt l s) else Q (.exit i) s:=rfl
theorem S3 {a b:Code}{s:St}{Q:EX->St->Prop} {τ}:W P cf it mu m (.seq a b) s Q τ=W P cf it mu m a s (thenK (fun s=>W P cf it mu m b s Q .mk) Q) .mk:=by
 simp only[W,evCode];cases evCode P cf it mu m a s with
 | none=>simp[bindW]
 | some q=>
   obtain⟨e,s'⟩:=q;cases e<;>simp[bindW,thenK]
theorem PO {id:Nat}{os:List Oper}{s:St}{Q:EX->St->Prop} {τ}:W P cf it mu m (.region id ⟨os⟩ false) s Q τ=WO P cf mu os os s (fun s=>Q .norm (dropSt (m.dd id) (actL (m.ra id) s))) .mk:=by
 simp only[W,WO,evCode,evRegion,false_eq_true,if_false,Fp]
theorem Q9 {s:St}{Q:EX->St->Prop} {τ}:W P cf it mu m .skip s Q τ=Q .norm s:=by simp[W,evCode,bindW]
theorem QN {l:Nat}{s:St}{Q:EX->St->Prop} {τ}:W P cf it mu m (.label l) s Q τ=Q .norm s:=by simp[W,evCode,bindW]
theorem S4 {s:St}{Q:EX->St->Prop} {τ}:W P cf it mu m .ret s Q τ=Q .ret s:=by simp[W,evCode,bindW]
theorem RB {id:Nat}{s:St}{Q:EX->St->Prop} {τ}:W P cf it mu m (.exit id) s Q τ=Q (.exit id) s:=by simp[W,evCode,bindW]
theorem QM {b:Code}{s:St}{Q:EX->St->Prop} {τ}:W P cf it mu m (.scope b) s Q τ=W P cf it mu m b s Q .mk:=by simp[W,evCode]
theorem QP {id:Nat}{b:Code}{s:St}{Q:EX->St->Prop} {τ}:W P cf it mu m (.block id b) s Q τ=W P cf it mu m b s (blockK (m.bd id) id Q) .mk:=by
 simp only[W,evCode];cases evCode P cf it mu m b s with
 | none=>simp[bindW]
 | some q=>
   obtain⟨e,s'⟩:=q;cases e with
   | exit i=>by_cases h:i=id<;>simp[bindW,blockK,h]
   | norm=>simp[bindW,blockK]
   | ret=>simp[bindW,blockK]
theorem RE {d:Nat}{x y:Code}{n:Nat}{t:Tm}{H:List MB}{Q:EX->St->Prop} {τ}:W P cf it mu m (.cond (.tmp d) x y) ⟨n,t,H⟩ Q τ =
  bindW (look t d) (fun v=>bindW (asB v) (fun b=>splitB b (W P cf it mu m x ⟨n,upd d (.bool true) t,H⟩ Q .mk) (W P cf it mu m y ⟨n,upd d (.bool false) t,H⟩ Q .mk) .mk) .mk) .mk:=by
 cases hv:look t d with
 | none=>
   have hg:lookD t d=.top:=by unfold lookD;rw[hv]
   simp only[W,evCode,St.ev,hg,Dg]
 | some v=>
   have hg:lookD t d=v:=by unfold lookD;rw[hv]
   have ss:=E5 hv;simp only[BF];cases v with
   | bool b=>cases b<;>simp only[W,evCode,St.ev,hg,LG,BF,CM,CC,ss]
   | _=>simp only[W,evCode,St.ev,hg,asB,Dg]
def roundK (k:St->Prop) (Q:EX->St->Prop):EX->St->Prop
 | .norm,s=>k s
 | e,s=>Q e s
theorem KC {k:St->Prop}{Q:EX->St->Prop}{s:St}:roundK k Q .norm s=k s:=rfl
theorem KD {k:St->Prop}{Q:EX->St->Prop}{s:St}{i:Nat}:roundK k Q (.exit i) s=Q (.exit i) s:=rfl
theorem Lg {k:St->Prop}{Q:EX->St->Prop}{s:St}:roundK k Q .ret s=Q .ret s:=rfl
theorem RA {b:Code}{Q:EX->St->Prop} (J:Nat->St->Prop)
  (h:∀ n s,J n s->W P cf itL mu m b (prep (m.lp (loopId b)) s) (roundK (fun s'=>∃ n',n'<n/\J n' s') Q) .mk) :
  ∀(n:Nat) (s:St),J n s->W P cf itL mu m (.loop b) s Q .mk:=by
 intro n
 induction n using Nat.strongRecOn with
 | ind n ih=>
   intro s hs;obtain⟨⟨e,s'⟩,h1,h2⟩:=h n s hs;simp only[W,evCode];cases e with
   | norm=>
     obtain⟨n',hn,hj⟩:=h2;obtain⟨q,q1,q2⟩:=ih n' hn s' hj;refine⟨q,?_,q2⟩;rw[Ls];simp only[evCode]at q1;simp only[h1];exact q1
   | exit id=>exact⟨_,by rw[Ls];simp only[h1],h2⟩
   | ret=>exact⟨_,by rw[Ls];simp only[h1],h2⟩
theorem Dk {σ:Type}{b:Code}{Q:EX->St->Prop}{M:Msk} (hM:m.lp (loopId b)=M) (T:σ->St) (Inv:σ->Prop) (μ:σ->Nat) (x0:σ)
  (h:∀ x,Inv x->W P cf itL mu m b (T x) (roundK (fun s'=>∃ x',Inv x'/\μ x'<μ x/\prep M s' = T x') Q) .mk)
  (h0:Inv x0) (s:St) (hs:prep M s=T x0):W P cf itL mu m (.loop b) s Q .mk:=by
 subst hM;refine RA (fun n s=>∃ x,Inv x/\μ x=n/\prep (m.lp (loopId b)) s=T x) ?_ (μ x0) s ⟨x0,h0,rfl,hs⟩;rintro n s ⟨x,h1,rfl,h3⟩;rw[h3];obtain⟨q,q1,q2⟩:=h x h1;refine⟨q,q1,?_⟩;obtain⟨e,s'⟩:=q;cases e with
 | norm=>
   obtain⟨x',a,b,c⟩:=q2;exact⟨_,b,x',a,rfl,c⟩
 | exit i=>exact q2
 | ret=>exact q2
theorem Ae {b:Code}{Q:EX->St->Prop}{M:Msk} (hM:m.lp (loopId b)=M) (N:Nat) (T:Nat->St) (Inv:Nat->Prop)
  (h:∀ i,i<N->Inv i->W P cf itL mu m b (T i) (roundK (fun s'=>Inv (i+1)/\prep M s' = T (i+1)) Q) .mk)
  (hN:Inv N->W P cf itL mu m b (T N) (roundK (fun _=>False) Q) .mk)
  (h0:Inv 0) (s:St) (hs:prep M s=T 0):W P cf itL mu m (.loop b) s Q .mk:=by
 refine Dk hM T (fun i=>i<=N/\Inv i) (fun i=>N-i) 0 ?_ ⟨Nat.zero_le _,h0⟩ s hs;rintro i ⟨h1,h2⟩;by_cases hi:i<N
 ·obtain⟨q,q1,q2⟩:=h i hi h2;refine⟨q,q1,?_⟩;obtain⟨e,s'⟩:=q;cases e with
  | norm=>exact⟨i+1,⟨hi,q2.1⟩,by show N-(i+1)<N-i;omega,q2.2⟩
  | exit i=>exact q2
  | ret=>exact q2
 ·obtain rfl:i=N:=by omega
  obtain⟨q,q1,q2⟩:=hN h2;refine⟨q,q1,?_⟩;obtain⟨e,s'⟩:=q;cases e with
  | norm=>exact q2.elim
  | exit i=>exact q2
  | ret=>exact q2
def endK (P:Program) (pol:Pol) (f:Nat) (H1:List MB) (rs:List ResultVar) (r:AV×List MB):EX->St->Prop
 | .exit _,_=>False
 | _,s=>bindW (evResults P s rs) (fun vs=>retPol pol f H1 (packRes vs) s.h=some r) .mk
theorem NQ {f H1 rs r s}:endK P pol f H1 rs r .norm s=bindW (evResults P s rs) (fun vs=>retPol pol f H1 (packRes vs) s.h=some r) .mk:=rfl
theorem Ot {f H1 rs r s}:endK P pol f H1 rs r .ret s=bindW (evResults P s rs) (fun vs=>retPol pol f H1 (packRes vs) s.h=some r) .mk:=rfl
theorem Ip {f:Nat}{args:List AV}{H:List MB}{r:AV×List MB}{fn:Func}{c:Code} (he:pol.ext f=none) (hf:P.funcs[f]?=some fn) (hc:fn.body=some c)
  (hn:(fn.name == "runtime.NumGoroutine")=false)
  (h:bindW (frzArgs pol f 0 args H) (fun q=>W P cf it (pol.muts f) (cfgOf pol f q.2.length) c ⟨q.1.length+(fn.ntmps-q.1.length),initT 0 q.1 [],q.2⟩ (endK P pol f q.2 fn.results.toList r) .mk) .mk) :
  evBody P pol cf it f args H=some r:=by
 obtain⟨⟨as,H1⟩,hz,⟨e,s⟩,hev,hk⟩:=h;unfold evBody;simp only[he,hf,hc];rw[if_neg (by simpa using hn)];simp only[hz,hev];cases e with
 | exit id=>exact hk.elim
 | norm=>
   obtain⟨vs,h1,h2⟩:=hk;simp only[h1];exact h2
 | ret=>
   obtain⟨vs,h1,h2⟩:=hk;simp only[h1];exact h2
end Go.Ev
namespace Go.Ev
open Go.RowKit
variable {P:Program}{pol:Pol}{cf:CF}{it:It}{mu:List Nat}{m:Cfg}
mutual
theorem AV.beq_refl:∀ a:AV,AV.beq a a=true
 | .top | .nilp | .nilf | .nili | .nilm=>rfl
 | .int k n=>by simp[AV.beq]
 | .bool x=>by simp[AV.beq]
 | .str s=>by simp[AV.beq]
 | .sl t xs=>by simp[AV.beq,AV.beqL_refl xs]
 | .pt xs=>by simp[AV.beq,AV.beqL_refl xs]
 | .rf a b c d=>by simp[AV.beq]
 | .ms a b c d e=>by simp[AV.beq]
 | .mpr a=>by simp[AV.beq]
 | .yld a=>by simp[AV.beq]
 | .clo f xs=>by simp[AV.beq,AV.beqL_refl xs]
 | .clb f xs=>by simp[AV.beq,AV.beqL_refl xs]
 | .agg xs=>by simp[AV.beq,AV.beqL_refl xs]
 | .tup xs=>by simp[AV.beq,AV.beqL_refl xs]
 | .ifc t x=>by simp[AV.beq,AV.beq_refl x]
 | .psl a b c=>by simp[AV.beq]
theorem AV.beqL_refl:∀ l:List AV,AV.beqL l l=true
 | []=>rfl
 | x::xs=>by simp[AV.beqL,AV.beq_refl x,AV.beqL_refl xs]
end
theorem MB.beqE_refl:∀ l:List (AV×AV),MB.beqE l l=true
 | []=>rfl
 | (a,b)::l=>by simp[MB.beqE,AV.beq_refl,MB.beqE_refl l]
theorem MB.beqT_refl:∀ l:List (Nat×AV),MB.beqT l l=true
 | []=>rfl
 | (a,b)::l=>by simp[MB.beqT,AV.beq_refl,MB.beqT_refl l]
theorem K0 (c:Code×Code):codeEq c c=true:=by simp[codeEq]
theorem MB.beq_refl (b:MB):MB.beq b b=true:=by
 cases b<;>simp[MB.beq,AV.beqL_refl,MB.beqE_refl,MB.beqT_refl,K0]
theorem Ag:∀ H:List MB,heapEq H H=true
 | []=>rfl
 | b::H=>by simp[heapEq,MB.beq_refl,Ag H]
theorem sameAt_refl (id:Nat) (H:List MB):sameAt id H H=true:=by
 unfold sameAt;cases H[id]?<;>simp[MB.beq_refl]
def dOk (os:List Oper) (_t:Tag os):Prop:=drawOk ⟨os⟩=true
def fpL (i:Nat) (o:Option FP):List (Nat×FP):=
 match o with
 | some p=>[(i,p)]
 | none=>[]
theorem Oj (i:Nat) (p:FP):fpL i (some p)=[(i,p)]:=rfl
theorem Ol (i:Nat):fpL i none=[]:=rfl
def WD (P:Program) (cf:CF) (mu:List Nat) (ops:List Oper) (i:Nat) (rest:List Oper) (s:St) (acc:List (Nat×FP)) (Q:List (Nat×FP)->St->Prop) (_t:Tag2 rest Q):Prop:=
 bindW (evOpsD P cf mu ops i rest s) (fun q=>Q (acc++q.1) q.2) .mk
theorem RH {ops:List Oper}{i:Nat}{s:St} {acc}{Q:List (Nat×FP)->St->Prop} {τ}:WD P cf mu ops i [] s acc Q τ=Q acc s:=by simp[WD,evOpsD,bindW]
theorem QS {ops rest:List Oper}{i:Nat} {dst op ty pos after}{n:Nat}{t:Tm}{H:List MB} {acc}{Q:List (Nat×FP)->St->Prop} {τ} :
  WD P cf mu ops i (⟨dst,op,ty,pos,after,none⟩::rest) ⟨n,t,H⟩ acc Q τ =
   bindW (evOp P cf mu (St.ev ⟨n,t,H⟩) H ⟨dst,op,ty,pos,after,none⟩) (fun q=>WD P cf mu ops (i+1) rest (St.put ⟨n,t,q.2⟩ dst q.1)
    (acc++fpL i (footprint mu (St.ev ⟨n,t,H⟩) ⟨dst,op,ty,pos,after,none⟩ H q.2)) Q .mk) .mk:=by
 simp only[WD,evOpsD,evOne,evWanted];cases h:evOp P cf mu (St.ev ⟨n,t,H⟩) H ⟨dst,op,ty,pos,after,none⟩ with
 | none=>simp[bindW]
 | some q=>
   obtain⟨v,H'⟩:=q;have hp:∀(d:Option Tmp),(St.put ⟨n,t,H'⟩ d v).h=H':=fun d=>by cases d<;>rfl
   cases h2:evOpsD P cf mu ops (i+1) rest (St.put ⟨n,t,H'⟩ dst v) with
   | none=>simp[bindW,h2]
   | some r=>
     obtain⟨l,s⟩:=r;simp only[BF,h2,if_true,hp];cases footprint mu (St.ev ⟨n,t,H⟩) ⟨dst,op,ty,pos,after,none⟩ H H'<;>simp[fpL]
theorem PQ {ops rest:List Oper}{i:Nat} {dst op ty pos after}{j:Nat}{w:Bool}{n:Nat}{t:Tm}{H:List MB} {acc}{Q:List (Nat×FP)->St->Prop} {τ} :
  WD P cf mu ops i (⟨dst,op,ty,pos,after,some (j,w)⟩::rest) ⟨n,t,H⟩ acc Q τ =
  bindW (guardV ops j t) (fun q=>guardW q w t
   (fun t=>bindW (evOp P cf mu (St.ev ⟨n,t,H⟩) H ⟨dst,op,ty,pos,after,none⟩) (fun q=>WD P cf mu ops (i+1) rest (St.put ⟨n,t,q.2⟩ dst q.1) (acc++fpL i (footprint mu (St.ev ⟨n,t,H⟩) ⟨dst,op,ty,pos,after,none⟩ H q.2)) Q .mk) .mk)
   (fun t=>WD P cf mu ops (i+1) rest (St.put ⟨n,t,H⟩ dst (.tup [])) acc Q .mk) .mk) .mk:=by
 have hop:∀ g,evOp P cf mu (St.ev ⟨n,t,H⟩) H ⟨dst,op,ty,pos,after,g⟩=evOp P cf mu (St.ev ⟨n,t,H⟩) H ⟨dst,op,ty,pos,after,none⟩:=fun g=>rfl
 have run:evWanted ops ⟨n,t,H⟩ ⟨dst,op,ty,pos,after,some (j,w)⟩=some true->WD P cf mu ops i (⟨dst,op,ty,pos,after,some (j,w)⟩::rest) ⟨n,t,H⟩ acc Q τ =
   bindW (evOp P cf mu (St.ev ⟨n,t,H⟩) H ⟨dst,op,ty,pos,after,none⟩) (fun q=>WD P cf mu ops (i+1) rest (St.put ⟨n,t,q.2⟩ dst q.1) (acc++fpL i (footprint mu (St.ev ⟨n,t,H⟩) ⟨dst,op,ty,pos,after,none⟩ H q.2)) Q .mk) .mk:=by
  intro h;have hfp:∀ g H',footprint mu (St.ev ⟨n,t,H⟩) ⟨dst,op,ty,pos,after,g⟩ H H' = footprint mu (St.ev ⟨n,t,H⟩) ⟨dst,op,ty,pos,after,none⟩ H H':=fun g H'=>rfl;simp only[WD,evOpsD,evOne,h,hop,hfp];cases evOp P cf mu (St.ev ⟨n,t,H⟩) H ⟨dst,op,ty,pos,after,none⟩ with
  | none=>simp[bindW]
  | some q=>
    obtain⟨v,H'⟩:=q;have hp:∀(d:Option Tmp),(St.put ⟨n,t,H'⟩ d v).h=H':=fun d=>by cases d<;>rfl
    cases h2:evOpsD P cf mu ops (i+1) rest (St.put ⟨n,t,H'⟩ dst v) with
    | none=>simp[bindW,h2]
    | some r=>
      obtain⟨l,s⟩:=r;simp only[BF,h2,if_true,hp];cases footprint mu (St.ev ⟨n,t,H⟩) ⟨dst,op,ty,pos,after,none⟩ H H'<;>simp[fpL]
 have skip:evWanted ops ⟨n,t,H⟩ ⟨dst,op,ty,pos,after,some (j,w)⟩=some false->WD P cf mu ops i (⟨dst,op,ty,pos,after,some (j,w)⟩::rest) ⟨n,t,H⟩ acc Q τ =
   WD P cf mu ops (i+1) rest (St.put ⟨n,t,H⟩ dst (.tup [])) acc Q .mk:=by
  intro h;simp only[WD,evOpsD,evOne,h];cases h2:evOpsD P cf mu ops (i+1) rest (St.put ⟨n,t,H⟩ dst (.tup [])) with
  | none=>simp[bindW]
  | some r=>
    obtain⟨l,s⟩:=r;simp[bindW]
 have stuck:evWanted ops ⟨n,t,H⟩ ⟨dst,op,ty,pos,after,some (j,w)⟩=none->WD P cf mu ops i (⟨dst,op,ty,pos,after,some (j,w)⟩::rest) ⟨n,t,H⟩ acc Q τ=False:=by
  intro h;simp only[WD,evOpsD,evOne,h,Dg]
 unfold guardV;cases hq0:ops[j]? with
 | none=>
   rw[skip (by simp[evWanted,hq0])];simp only[BF,C5]
 | some q=>
   simp only[];cases hd:q.dst with
   | none=>
     rw[skip (by simp[evWanted,hq0,hd])];simp only[BF,C5]
   | some d=>
     simp only[];cases htd:look t d with
     | none=>
       rw[stuck (by simp[evWanted,hq0,hd,htd])];simp[bindW]
     | some u=>
       simp only[Option.map_some,BF];have st:(∀ b,u≠.bool b)->u≠.tup []->evWanted ops ⟨n,t,H⟩ ⟨dst,op,ty,pos,after,some (j,w)⟩=none:=by
        intro h1 h2;simp only[evWanted,hq0,hd,htd];cases u with
        | bool b=>exact absurd rfl (h1 b)
        | tup l=>cases l with
          | nil=>exact absurd rfl h2
          | cons a l=>rfl
        | _=>rfl
       have ss:=E5 htd;cases u with
       | bool b=>
         rw[DE];cases b<;>cases w
         ·rw[run (by simp[evWanted,hq0,hd,htd]),CC,if_pos rfl,ss]
         ·rw[skip (by simp[evWanted,hq0,hd,htd])];simp[CC,ss]
         ·rw[skip (by simp[evWanted,hq0,hd,htd])];simp[CM,ss]
         ·rw[run (by simp[evWanted,hq0,hd,htd]),CM,if_pos rfl,ss]
       | tup l=>
         cases l with
         | nil=>rw[skip (by simp[evWanted,hq0,hd,htd])];rfl
         | cons a l=>rw[stuck (st (by simp) (by simp))];rfl
       | _=>rw[stuck (st (by simp) (by simp))];rfl
def WI (P:Program) (cf:CF) (mu:List Nat) (ops:List Oper) (ord:List Nat) (s:St) (acc:List (Nat×FP)) (Q:List (Nat×FP)->St->Prop) (_t:Tag2 ord Q):Prop:=
 bindW (evOpsI P cf mu ops ord s) (fun q=>Q (acc++q.1) q.2) .mk
theorem RG {ops:List Oper}{s:St} {acc}{Q:List (Nat×FP)->St->Prop} {τ}:WI P cf mu ops [] s acc Q τ=Q acc s:=by simp[WI,evOpsI,bindW]
theorem QR {ops:List Oper}{i:Nat}{rest:List Nat}{s:St} {acc}{Q:List (Nat×FP)->St->Prop} {τ} :
  WI P cf mu ops (i::rest) s acc Q τ=bindW ops[i]? (fun o=>WD P cf mu ops i [o] s acc (fun acc' s'=>WI P cf mu ops rest s' acc' Q .mk) .mk) .mk:=by
 simp only[WI,WD,evOpsI,evOpsD];cases ops[i]? with
 | none=>simp[bindW]
 | some o=>
   simp only[BF];cases evWanted ops s o with
   | none=>simp[bindW]
   | some b=>
     simp only[];cases evOne P cf mu ops o s with
     | none=>simp[bindW]
     | some s1=>
       simp only[BF];cases evOpsI P cf mu ops rest s1 with
       | none=>simp[bindW]
       | some q=>
         obtain⟨l,s2⟩:=q;simp only[BF];cases (if b=true then footprint mu s.ev o s.h s1.h else none)<;>simp
def altW (o:Option (Nat×Nat×List Nat)) (X:Prop) (Y:Nat->Nat->List Nat->Prop) (_t:Tag2 X Y):Prop:=
 match o with
 | none=>X
 | some (p,q,ord)=>Y p q ord
theorem Ni {X:Prop}{Y:Nat->Nat->List Nat->Prop} {τ}:altW none X Y τ=X:=rfl
theorem Nh {p q:Nat}{ord:List Nat}{X:Prop}{Y:Nat->Nat->List Nat->Prop} {τ}:altW (some (p,q,ord)) X Y τ=Y p q ord:=rfl
theorem Kf (H:List MB):heapEq H H=true:=by
 induction H with
 | nil=>rfl
 | cons x H ih=>simp[heapEq,MB.beq_refl,ih]
theorem II:∀ t:Tm,tmEq t t=true
 | []=>rfl
 | (k,v)::t=>by simp[tmEq,AV.beq_refl,II t]
theorem St.beq_refl (s:St):St.beq s s=true:=by simp[St.beq,II,Kf]
theorem RC {id:Nat}{os:List Oper}{s:St}{Q:EX->St->Prop} {τ}:W P cf it mu m (.region id ⟨os⟩ true) s Q τ =
  altW (m.al id) (dOk os .mk/\WD P cf mu os 0 os s [] (fun l s=>pairsOk ⟨os⟩ l=true/\Q .norm (dropSt (m.dd id) (actL (m.ra id) s))) .mk)
   (fun p q ord=>dOk os .mk/\altO ⟨os⟩ p q ord=true/\WD P cf mu os 0 os s [] (fun l s1=>pairsX ⟨os⟩ p q l=true /\
     WI P cf mu os ord s [] (fun l2 s2=>pairsX ⟨os⟩ q p l2=true/\St.beq s1 s2=true/\Q .norm (dropSt (m.dd id) (actL (m.ra id) s1))) .mk) .mk) .mk:=by
 simp only[W,WD,WI,evCode,evRegion,if_true,Fp,dOk];cases m.al id with
 | none=>
   simp only[altW];cases evOpsD P cf mu os 0 os s with
   | none=>simp[bindW]
   | some q=>
     obtain⟨l,s'⟩:=q;simp only[BF,nil_append];by_cases h1:drawOk ⟨os⟩=true<;>by_cases h2:pairsOk ⟨os⟩ l=true<;>simp[h1,h2,bindW]
 | some a=>
   obtain⟨p,q,ord⟩:=a;simp only[altW];cases evOpsD P cf mu os 0 os s with
   | none=>simp[bindW]
   | some x=>
     obtain⟨l,s1⟩:=x;simp only[BF,nil_append];cases evOpsI P cf mu os ord s with
     | none=>simp[bindW]
     | some y=>
       obtain⟨l2,s2⟩:=y;simp only[BF,nil_append];by_cases h1:drawOk ⟨os⟩=true<;>by_cases h2:altO ⟨os⟩ p q ord=true<;>by_cases h3:pairsX ⟨os⟩ p q l=true<;>by_cases h4:pairsX ⟨os⟩ q p l2=true<;>by_cases h5:St.beq s1 s2=true<;>simp[h1,h2,h3,h4,h5,bindW]
theorem Q6 {f n:Nat}:(cfgOf pol f n).al=pol.alts f:=rfl
mutual
def AV.plain:AV->Bool
 | .rf _ _ _ _ | .ms _ _ _ _ _ | .mpr _ | .yld _=>false
 | .sl t xs=>!t&&AV.plainL xs
 | .pt xs=>AV.plainL xs
 | .clo _ xs=>AV.plainL xs
 | .clb _ xs=>AV.plainL xs
 | .agg xs=>AV.plainL xs
 | .tup xs=>AV.plainL xs
 | .ifc _ x=>AV.plain x
 | _=>true
def AV.plainL:List AV->Bool
 | []=>true
 | x::xs=>AV.plain x&&AV.plainL xs
end
theorem Ea (l:List AV):AV.plainL l=true↔∀ x∈l,AV.plain x=true:=by
 induction l with
 | nil=>simp[AV.plainL]
 | cons a l ih=>simp[AV.plainL,ih]
mutual
theorem EF (jump:List AV->List MB->Option (List AV×List MB)):∀(a:AV) (H:List MB),AV.plain a=true->fzA jump a H=some (a,H)
 | .sl t xs,H,h=>by
   simp only[AV.plain,and_eq_true,Bool.not_eq_true']at h;obtain⟨rfl,h2⟩:=h;simp only[fzA,BO jump xs H h2]
 | .pt xs,H,h=>by simp only[AV.plain]at h;simp only[fzA,BO jump xs H h]
 | .agg xs,H,h=>by simp only[AV.plain]at h;simp only[fzA,BO jump xs H h]
 | .tup xs,H,h=>by simp only[AV.plain]at h;simp only[fzA,BO jump xs H h]
 | .rf _ _ _ _,H,h=>by simp[AV.plain]at h
 | .ms _ _ _ _ _,H,h=>by simp[AV.plain]at h
 | .mpr _,H,h=>by simp[AV.plain]at h
 | .yld _,H,h=>by simp[AV.plain]at h
 | .top,H,h=>rfl
 | .int _ _,H,h=>rfl
 | .bool _,H,h=>rfl
 | .str _,H,h=>rfl
 | .nilp,H,h=>rfl
 | .nilf,H,h=>rfl
 | .nili,H,h=>rfl
 | .nilm,H,h=>rfl
 | .clo _ _,H,h=>rfl
 | .clb _ _,H,h=>rfl
 | .ifc _ _,H,h=>rfl
 | .psl _ _ _,H,h=>rfl
theorem BO (jump:List AV->List MB->Option (List AV×List MB)):∀(l:List AV) (H:List MB),AV.plainL l=true->fzL jump l H=some (l,H)
 | [],H,_=>rfl
 | x::xs,H,h=>by
   simp only[AV.plainL,and_eq_true]at h;simp only[fzL,EF jump x H h.1,BO jump xs H h.2]
end
mutual
theorem AH (n:Nat):∀(a:AV),AV.plain a=true->AV.under n a=true
 | .sl t xs,h=>by
   simp only[AV.plain,and_eq_true]at h;simp only[AV.under,AE n xs h.2]
 | .pt xs,h=>by simp only[AV.plain]at h;simp only[AV.under,AE n xs h]
 | .agg xs,h=>by simp only[AV.plain]at h;simp only[AV.under,AE n xs h]
 | .tup xs,h=>by simp only[AV.plain]at h;simp only[AV.under,AE n xs h]
 | .clo _ xs,h=>by simp only[AV.plain]at h;simp only[AV.under,AE n xs h]
 | .clb _ xs,h=>by simp only[AV.plain]at h;simp only[AV.under,AE n xs h]
 | .ifc _ x,h=>by simp only[AV.plain]at h;simp only[AV.under,AH n x h]
 | .rf _ _ _ _,h=>by simp[AV.plain]at h
 | .ms _ _ _ _ _,h=>by simp[AV.plain]at h
 | .mpr _,h=>by simp[AV.plain]at h
 | .yld _,h=>by simp[AV.plain]at h
 | .psl _ _ _,h=>rfl
 | .top,h=>rfl
 | .int _ _,h=>rfl
 | .bool _,h=>rfl
 | .str _,h=>rfl
 | .nilp,h=>rfl
 | .nilf,h=>rfl
 | .nili,h=>rfl
 | .nilm,h=>rfl
theorem AE (n:Nat):∀(l:List AV),AV.plainL l=true->AV.underL n l=true
 | [],_=>rfl
 | x::xs,h=>by
   simp only[AV.plainL,and_eq_true]at h;simp only[AV.underL,AH n x h.1,AE n xs h.2,Bool.and_self]
end
theorem Az {a:AV} (H:List MB) (h:AV.plain a=true):fz a H=some (a,H):=EF _ a H h
theorem F0 (H K:List MB):keptOk 0 [] K=true:=by cases K<;>rfl
theorem MA {f:Nat}{args:List AV}{r:AV} (hp:pol.pure f=true) (ha:AV.plainL args=true) (hr:AV.plain r=true)
  (h:evBody P pol (call P pol) itL f args []=some (r,[])) (H:List MB):call P pol f args H=some (r,H):=by
 have hf:∀(l:List AV) (i:Nat),AV.plainL l=true->frzArgs pol f i l H=some (l,H):=by
  intro l
  induction l with
  | nil=>intro i _;rfl
  | cons x l ih=>
    intro i h;simp only[AV.plainL,and_eq_true]at h;simp only[frzArgs,Az H h.1,ih (i+1) h.2];split<;>simp_all
 rw[Bk];unfold evStep;rw[if_pos hp];simp only[hf args 0 ha,AE 0 args ha,if_true,h,rebase,AH 0 r hr]
theorem JT {d:Nat}{b:Bool}{t:Tm}{X Y:Tm->Prop} {τ}:guardW (d,.bool b) true t X Y τ=splitB b (X (upd d (.bool true) t)) (Y (upd d (.bool false) t)) .mk:=by
 simp[DE]
theorem JU {d:Nat}{b:Bool}{t:Tm}{X Y:Tm->Prop} {τ}:guardW (d,.bool b) false t X Y τ=splitB b (Y (upd d (.bool true) t)) (X (upd d (.bool false) t)) .mk:=by
 simp[DE]
theorem OC {n:Nat}{t:Tm}{H:List MB}{i:Nat}{v:AV}:St.put ⟨n,t,H⟩ (some i) v=⟨n,if i<n then ins i v t else t,H⟩:=rfl
theorem OD {n:Nat}{t:Tm}{H:List MB}{v:AV}:St.put ⟨n,t,H⟩ none v=⟨n,t,H⟩:=rfl
theorem Q1 {n:Nat}{t:Tm}{H:List MB}{i:Nat}:St.ev ⟨n,t,H⟩ (.tmp i)=lookD t i:=rfl
theorem Q2 {n:Nat}{t:Tm}{H:List MB}{v:Value}:St.ev ⟨n,t,H⟩ (.const v)=ofK v:=rfl
theorem QH {n:Nat}{t:Tm}{H:List MB}{f:Nat}:St.ev ⟨n,t,H⟩ (.func f)=.clo f []:=rfl
theorem Ps {k:IntKind}{n:Int}:ofK (.int k n)=.int k n:=rfl
theorem ON {b:Bool}:ofK (.bool b)=.bool b:=rfl
theorem Pq {b:ByteArray}:ofK (.string b)=.str b:=rfl
theorem Pu {l:List Value}:ofK (.agg ⟨l⟩)=if l.all Value.oneCell' = true then .agg (l.map ofC) else .top:=rfl
theorem Px {k:IntKind}{n:Int}:ofC (.int k n)=.int k n:=rfl
theorem OQ {b:Bool}:ofC (.bool b)=.bool b:=rfl
theorem Pv {b:ByteArray}:ofC (.string b)=.str b:=rfl
theorem Pw:ofC (.slice none 0 0)=.sl true []:=rfl
theorem OO:ofC (.pointer none)=.nilp:=rfl
theorem Pp {k:IntKind}{n:Int}:Value.oneCell' (.int k n)=true:=rfl
theorem OM {b:Bool}:Value.oneCell' (.bool b)=true:=rfl
theorem Pn {b:ByteArray}:Value.oneCell' (.string b)=true:=rfl
theorem Po:Value.oneCell' (.slice none 0 0)=true:=rfl
theorem OL:Value.oneCell' (.pointer none)=true:=rfl
theorem Pr:ofK (.slice none 0 0)=.sl true []:=rfl
theorem CE {f:Nat} (hb:∀ i,pol.byref f i=false) (H:List MB):∀(l:List AV) (i:Nat),AV.plainL l=true->frzArgs pol f i l H=some (l,H)
 | [],_,_=>rfl
 | x::l,i,h=>by
   simp only[AV.plainL,and_eq_true]at h;simp only[frzArgs,hb,false_eq_true,if_false,Az H h.1,CE hb H l (i+1) h.2]
def retK (P:Program) (rs:List ResultVar) (r:AV):EX->St->Prop
 | .exit _,_=>False
 | _,s=>bindW (evResults P s rs) (fun vs=>∃ H',fz (packRes vs) s.h=some (r,H')) .mk
theorem M3 {rs r s}:retK P rs r .norm s=bindW (evResults P s rs) (fun vs=>∃ H',fz (packRes vs) s.h=some (r,H')) .mk:=rfl
theorem N7 {rs r s}:retK P rs r .ret s=bindW (evResults P s rs) (fun vs=>∃ H',fz (packRes vs) s.h=some (r,H')) .mk:=rfl
theorem fzEq {r r':AV}{H:List MB} (h:AV.plain r=true) (e:r=r'):(∃ H',fz r H=some (r',H')):=⟨H,e ▸ Az H h⟩
theorem AX {f:Nat}{args:List AV}{r:AV}{fn:Func}{c:Code} (hf:P.funcs[f]?=some fn) (hc:fn.body=some c) (hn:(fn.name == "runtime.NumGoroutine")=false)
  (hp:pol.pure f=true) (he:pol.ext f=none) (hk:pol.keep f=false) (ho:pol.own f=false) (hb:∀ i,pol.byref f i=false)
  (ha:AV.plainL args=true) (hr:AV.plain r=true)
  (h:W P (call P pol) itL (pol.muts f) (cfgOf pol f 0) c ⟨args.length+(fn.ntmps-args.length),initT 0 args [],[]⟩ (retK P fn.results.toList r) .mk) (H:List MB) :
  call P pol f args H=some (r,H):=by
 refine MA hp ha hr ?_ H;obtain⟨⟨e,s⟩,hev,hk2⟩:=h;have fin:∀ {vs:List AV}{H':List MB},fz (packRes vs) s.h=some (r,H')->retPol pol f [] (packRes vs) s.h=some (r,[]):=by
  intro vs H' hz;unfold retPol;simp only[hk,ho,false_eq_true,if_false,hz,length_nil,AH 0 r hr,F0 [] H',and_self,if_true,List.take_zero]
 unfold evBody;simp only[he,hf,hc];rw[if_neg (by simpa using hn)];simp only[CE hb [] args 0 ha,length_nil,hev];cases e with
 | exit id=>exact hk2.elim
 | norm=>
   obtain⟨vs,h1,H',h2⟩:=hk2;simp only[h1];exact fin h2
 | ret=>
   obtain⟨vs,h1,H',h2⟩:=hk2;simp only[h1];exact fin h2
theorem BD {m:Msk}{n k:Nat}{t t':Tm}{h h':List MB} (hz:m.acts=[]) (hg:m.gc=some n) (hc:keepT m.k t=t') (he:h.take n=h') (ht:AV.underL n (t'.map (·.2))=true) (hh:h'.all (MB.under n)=true) :
  prep m ⟨k,t,h⟩=⟨k,t',h'⟩:=by
 subst he;unfold prep prepG;simp only[hz,actL,hg,hc,ht,hh,and_self,if_true]
theorem OX {d:Nat}{v:AV}{t:Tm}:look ((d,v)::t) d=some v:=by simp[look]
theorem NF {d:Nat}{v:AV}{t:Tm}:lookD ((d,v)::t) d=v:=by simp[lookD,look]
theorem Lp {k d:Nat}{v:AV}{t:Tm}:lookD ((k,v)::t) d=if k=d then v else lookD t d:=by
 by_cases h:k=d<;>simp[lookD,look,h]
theorem NE {d:Nat}:lookD [] d=.top:=rfl
theorem P2 {d:Nat}{u v:AV}{t:Tm}:ins d v ((d,u)::t)=(d,v)::t:=by simp[ins]
theorem PR {d:Nat}{u v:AV}{t:Tm}:upd d v ((d,u)::t)=(d,v)::t:=by simp[upd]
theorem OB {d:Nat}{u:AV}{t:Tm}:rem1 d ((d,u)::t)=t:=by simp[rem1]
theorem NS {n:Nat}{l:List Nat}{t:Tm}{H:List MB}:dropSt l ⟨n,t,H⟩=⟨n,dropT l t,H⟩:=rfl
theorem Q4 {f n:Nat}:(cfgOf pol f n).dd=pol.dead f:=rfl
theorem Q3 {f n:Nat}:(cfgOf pol f n).ra=pol.racts f:=rfl
theorem PL {s:St}:actL [] s=s:=rfl
theorem Nk {a:SA}{l:List SA}{s:St}:actL (a::l) s=actL l (act1 s a):=rfl
theorem Nn {d:Nat}{u v:AV}{t:Tm}:updT d v ((d,u)::t)=(d,v)::t:=by simp[updT]
theorem Q5 {f n:Nat}:(cfgOf pol f n).bd=pol.bdead f:=rfl
theorem QO {b:Bool}{x y:Code}{s:St}{Q:EX->St->Prop} {τ}:W P cf it mu m (.cond (.const (.bool b)) x y) s Q τ=if b=true then W P cf it mu m x s Q .mk else W P cf it mu m y s Q .mk:=by
 have e:s.ev (.const (.bool b))=.bool b:=rfl;simp only[W,evCode,e];cases b<;>simp
end Go.Ev
namespace Go.Ev
open Go.RowKit Go.IntWalk
section
variable {a b:Int}
theorem Sb (h:a<b):decide (a<b)=true:=decide_eq_true h
theorem Sc (h:b<=a):decide (a<b)=false:=decide_eq_false (by omega)
theorem Sd (h:a<=b):decide (a<=b)=true:=decide_eq_true h
theorem Se (h:b<a):decide (a<=b)=false:=decide_eq_false (by omega)
theorem Sf (h:b<a):decide (a > b)=true:=decide_eq_true h
theorem Sg (h:a<=b):decide (a > b)=false:=decide_eq_false (by omega)
theorem Sh (h:b<=a):decide (a >= b)=true:=decide_eq_true h
theorem Si (h:a<b):decide (a >= b)=false:=decide_eq_false (by omega)
theorem S0 (h:a=b):(a==b)=true:=by simp[h]
theorem S1 (h:a≠b):(a==b)=false:=by simp[h]
theorem Sy (h:a≠b):(a != b)=true:=by simp[h]
theorem Sz (h:a=b):(a != b)=false:=by simp[h]
theorem lt_T (h:a<b):(a<b)=True:=by simp[h]
theorem le_T (h:a<=b):(a<=b)=True:=by simp[h]
end
theorem R7 {a b:Nat} (h:a<=b):(a<=b)=True:=by simp[h]
theorem R8 {a b:Nat} (h:b<a):(a<=b)=False:=by simp;omega
theorem AD {a:Nat} (h:a<=4611686018427387904):IntKind.i64.wrap ((a:Int)+1)=((a+1:Nat):Int):=by rw[i64_in];rfl;omega
theorem AC {a:Nat} (h:a<=4611686018427387904):IntKind.i64.wrap (((a+1:Nat):Int)-1)=(a:Int):=by rw[i64_in]<;>omega
theorem AB {a:Nat} (h:0<a/\a<=4611686018427387904):IntKind.i64.wrap ((a:Int)-1)=((a-1:Nat):Int):=by rw[i64_in]<;>omega
theorem AA {a b:Nat} (h:b<=a/\a<=4611686018427387904):IntKind.i64.wrap ((a:Int)-(b:Int))=((a-b:Nat):Int):=by rw[i64_in]<;>omega
section
variable {α:Type} (a0 a1 a2 a3 a4 a5 a6 a7 a8 a9 a10 a11 a12 a13 a14 a15:α) (t:List α) (n:Nat)
theorem Lu:(a0::a1::a2::a3::a4::a5::a6::a7::a8::a9::a10::a11::a12::a13::a14::a15::t)[n+16]?=t[n]?:=by simp
end
section
variable {α:Type} (a0 a1 a2 a3:α) (t:List α) (n:Nat)
theorem Rx (v:α):(a0::a1::a2::a3::t).set (n+4) v=a0::a1::a2::a3::t.set n v:=rfl
theorem NL:(a0::a1::a2::a3::t)[n+4]?=t[n]?:=by simp
theorem R2 (a v:α):(a::t).set 0 v=v::t:=rfl
theorem R1 (a b v:α):(a::b::t).set 1 v=a::v::t:=rfl
theorem Rz (a b c v:α):(a::b::c::t).set 2 v=a::b::v::t:=rfl
theorem Ry (a b c d v:α):(a::b::c::d::t).set 3 v=a::b::c::v::t:=rfl
end
variable {P:Program}{pol:Pol}
theorem AO {f:Nat}{args as:List AV}{H H1:List MB}{r:AV×List MB}{fn:Func}{c:Code} (hf:P.funcs[f]?=some fn) (hc:fn.body=some c) (hn:(fn.name == "runtime.NumGoroutine")=false)
  (hp:pol.pure f=false) (he:pol.ext f=none) (ha:frzArgs pol f 0 args H=some (as,H1))
  (h:W P (call P pol) itL (pol.muts f) (cfgOf pol f H1.length) c ⟨as.length+(fn.ntmps-as.length),initT 0 as [],H1⟩ (endK P pol f H1 fn.results.toList r) .mk) (hy:f≠yldF:=by decide) :
  call P pol f args H=some r:=by
 rw[Bk];unfold evStep;rw[if_neg (by simp[hp]),if_neg hy];refine Ip he hf hc hn ?_;rw[ha,BF];exact h
theorem Bt {f:Nat}{H1 H H':List MB}{r:AV} (hk:pol.keep f=false) (ho:pol.own f=false) (hr:AV.plain r=true) (h:keptOk H1.length H1 H=true) (hh:H.take H1.length=H') :
  retPol pol f H1 r H=some (r,H'):=by
 unfold retPol;simp only[hk,ho,false_eq_true,if_false,Az H hr,AH _ r hr,h,and_self,if_true,hh]
theorem JY {n id k tot off len z:Nat}{H H':List MB}{els ys:List AV} (hr:getRow H id=some (k,els,z)) (h1:els.length=tot) (h2:off+len<=tot)
  (hp:fzL (fzJ n) ((els.drop off).take len) (mark H id (off+len))=some (ys,H')) :
  fzA (fzJ (n+1)) (.ms id k tot off len) H=some (.sl false ys,H'):=by
 simp only[fzA,hr,h1,h2,and_self,if_true,fzJ,hp]
theorem JZ {j:List AV->List MB->Option (List AV×List MB)}{xs:List AV}{H:List MB}:fzA j (.agg xs) H=match fzL j xs H with
 | some (ys,H')=>some (.agg ys,H')
 | none=>none:=rfl
theorem Q0 {j:List AV->List MB->Option (List AV×List MB)}{t:Bool}{xs:List AV}{H:List MB}:fzA j (.sl t xs) H=match fzL j xs H with
 | some (ys,H')=>some (.sl false ys,H')
 | none=>none:=rfl
theorem GW {j:List AV->List MB->Option (List AV×List MB)}{k:IntKind}{n:Int}{H:List MB}:fzA j (.int k n) H=some (.int k n,H):=rfl
end Go.Ev
namespace Go.Ev
open Go.RowKit Go.IntWalk
variable {P:Program}{pol:Pol}
theorem AJ (n:Nat) (xs ys:List AV):AV.underL n (xs++ys)=(AV.underL n xs&&AV.underL n ys):=by
 induction xs with
 | nil=>simp[AV.underL]
 | cons a xs ih=>simp[AV.underL,ih,Bool.and_assoc]
theorem Af {α:Type} (a:α):(some a).toList=[a]:=rfl
def retE (P:Program) (rs:List ResultVar) (Post:AV->Prop):EX->St->Prop
 | .exit _,_=>False
 | _,s=>bindW (evResults P s rs) (fun vs=>∃ r,Post r/\∃ H',fz (packRes vs) s.h=some (r,H')) .mk
theorem Av {rs}{Post:AV->Prop} {s}:retE P rs Post .norm s=bindW (evResults P s rs) (fun vs=>∃ r,Post r/\∃ H',fz (packRes vs) s.h=some (r,H')) .mk:=rfl
theorem BG {rs}{Post:AV->Prop} {s}:retE P rs Post .ret s=bindW (evResults P s rs) (fun vs=>∃ r,Post r/\∃ H',fz (packRes vs) s.h=some (r,H')) .mk:=rfl
end Go.Ev
namespace Go.Ev
open Go.RowKit Go.IntWalk
variable {P:Program}{pol:Pol}
theorem Fm {f:Nat}{args:List AV}{Post:AV->Prop}{fn:Func}{c:Code} (hf:P.funcs[f]?=some fn) (hc:fn.body=some c) (hn:(fn.name == "runtime.NumGoroutine")=false)
  (hp:pol.pure f=true) (he:pol.ext f=none) (hk:pol.keep f=false) (ho:pol.own f=false) (hb:∀ i,pol.byref f i=false)
  (ha:AV.plainL args=true) (hr:∀ r,Post r->AV.plain r=true)
  (h:W P (call P pol) itL (pol.muts f) (cfgOf pol f 0) c ⟨args.length+(fn.ntmps-args.length),initT 0 args [],[]⟩ (retE P fn.results.toList Post) .mk) :
  ∃ r,Post r/\∀ H,call P pol f args H=some (r,H):=by
 obtain⟨⟨e,s⟩,h1,h2⟩:=h;have key:∃ r,Post r/\retK P fn.results.toList r e s:=by
  cases e with
  | exit id=>exact h2.elim
  | norm=>
    obtain⟨vs,a,r,b,c⟩:=h2;exact⟨r,b,vs,a,c⟩
  | ret=>
    obtain⟨vs,a,r,b,c⟩:=h2;exact⟨r,b,vs,a,c⟩
 obtain⟨r,hP,hret⟩:=key;exact⟨r,hP,AX hf hc hn hp he hk ho hb ha (hr r hP) ⟨(e,s),h1,hret⟩⟩
end Go.Ev
namespace Go.Ev
open Go.RowKit Go.IntWalk
variable {P:Program}{pol:Pol}
theorem AR (x:MB) (l l':List MB):sameAt 0 (x::l) (x::l')=true:=by simp[sameAt,MB.beq_refl]
theorem AY (x y x':MB) (l l':List MB):sameAt 1 (x::y::l) (x'::y::l')=true:=by simp[sameAt,MB.beq_refl]
theorem AP (x y z x' y':MB) (l l':List MB):sameAt 2 (x::y::z::l) (x'::y'::z::l')=true:=by simp[sameAt,MB.beq_refl]
theorem AS (x y z u x' y' z':MB) (l l':List MB):sameAt 3 (x::y::z::u::l) (x'::y'::z'::u::l')=true:=by simp[sameAt,MB.beq_refl]
theorem AT (x y z u v x' y' z' u':MB) (l l':List MB):sameAt 4 (x::y::z::u::v::l) (x'::y'::z'::u'::v::l')=true:=by simp[sameAt,MB.beq_refl]
theorem Ad {n b:Nat} (h:n<=4000000000) (hb:b<=8000):roomFor n b=true:=by
 have:n*b<=4000000000*8000:=Nat.mul_le_mul h hb;simp[roomFor];omega
theorem take_len {α:Type}{l:List α}{n:Nat} (h:l.length=n):l.take n=l:=take_of_length_le (Nat.le_of_eq h)
theorem DY {α β:Type}{f:α->β}{l:List α}{n:Nat} (h:l.length=n):(l.map f).take n=l.map f:=take_of_length_le (by simp[h])
theorem DF {n id k tot z:Nat}{H:List MB}{els:List AV} (hr:getRow H id=some (k,els,z)) (h1:els.length=tot) (hp:AV.plainL els=true) :
  fzA (fzJ (n+1)) (.ms id k tot 0 tot) H=some (.sl false els,mark H id tot):=by
 have:=JY (n:=n) (off:=0) (len:=tot) (ys:=els) (H':=mark H id (0+tot)) hr h1 (by omega) (by rw[List.drop_zero,take_len h1];exact BO _ _ _ hp)
 rwa [Nat.zero_add]at this
theorem De {id k tot z:Nat}{H:List MB}{els:List AV} (hr:getRow H id=some (k,els,z)) (h1:els.length=tot) (hp:AV.plainL els=true) :
 fz (.ms id k tot 0 tot) H=some (.sl false els,mark H id tot):=DF hr h1 hp
theorem HK {id tot i j k z:Nat}{H:List MB}{els:List AV}{x:AV} (hr:getRow H id=some (k,els,z)) (h1:els.length=tot) (hx:els[i]?=some x) (hp:AV.plainL (x.cells.drop j)=true) :
  fz (.rf id tot i j) H=some (.pt (x.cells.drop j),mark H id (i+1)):=by
 simp only[fz,fzA,hr,h1,if_true,hx,fzJ,BO _ _ _ hp]
theorem Ar {m:Msk}{n k:Nat}{t:Tm}{h:List MB}{s:St} (hz:m.acts=[]) (hg:m.gc=some n) (ht:AV.underL n ((keepT m.k t).map (·.2))=true) (hh:(h.take n).all (MB.under n)=true)
  (he:(⟨k,keepT m.k t,h.take n⟩:St)=s):prep m ⟨k,t,h⟩=s:=by
 subst he;exact BD hz hg rfl rfl ht hh
theorem JX {j:List AV->List MB->Option (List AV×List MB)}{xs:List AV}{H:List MB}:fzA j (.tup xs) H=match fzL j xs H with
 | some (ys,H')=>some (.tup ys,H')
 | none=>none:=rfl
theorem Lt {α:Type} (n:Nat) (l:List α):(l.take (n+1)).head?=l.head?:=by cases l<;>simp
variable {P:Program}{pol:Pol}
def endE (P:Program) (pol:Pol) (f:Nat) (H1:List MB) (rs:List ResultVar) (Post:AV×List MB->Prop):EX->St->Prop
 | .exit _,_=>False
 | _,s=>bindW (evResults P s rs) (fun vs=>∃ r,Post r/\retPol pol f H1 (packRes vs) s.h=some r) .mk
theorem NR {f H1 rs}{Post:AV×List MB->Prop} {s}:endE P pol f H1 rs Post .norm s=bindW (evResults P s rs) (fun vs=>∃ r,Post r/\retPol pol f H1 (packRes vs) s.h=some r) .mk:=rfl
theorem Ou {f H1 rs}{Post:AV×List MB->Prop} {s}:endE P pol f H1 rs Post .ret s=bindW (evResults P s rs) (fun vs=>∃ r,Post r/\retPol pol f H1 (packRes vs) s.h=some r) .mk:=rfl
theorem CJ {f:Nat}{args l:List AV}{H H1:List MB}{Post:AV×List MB->Prop}{fn:Func}{c:Code} (hf:P.funcs[f]?=some fn) (hc:fn.body=some c) (hn:(fn.name == "runtime.NumGoroutine")=false)
  (hp:pol.pure f=false) (he:pol.ext f=none) (ha:frzArgs pol f 0 args H=some (l,H1))
  (h:W P (call P pol) itL (pol.muts f) (cfgOf pol f H1.length) c ⟨l.length+(fn.ntmps-l.length),initT 0 l [],H1⟩ (endE P pol f H1 fn.results.toList Post) .mk) (hy:f≠yldF:=by decide) :
  ∃ r,Post r/\call P pol f args H=some r:=by
 obtain⟨⟨e,s⟩,h1,h2⟩:=h;have key:∃ r,Post r/\endK P pol f H1 fn.results.toList r e s:=by
  cases e with
  | exit id=>exact h2.elim
  | norm=>
    obtain⟨vs,a,r,b,c⟩:=h2;exact⟨r,b,vs,a,c⟩
  | ret=>
    obtain⟨vs,a,r,b,c⟩:=h2;exact⟨r,b,vs,a,c⟩
 obtain⟨r,hP,hret⟩:=key;exact⟨r,hP,AO hf hc hn hp he ha ⟨(e,s),h1,hret⟩ hy⟩
def mixOk (pol:Pol) (f:Nat):Nat->List AV->Bool
 | _,[]=>true
 | i,x::l=>(pol.byref f i||AV.plain x)&&mixOk pol f (i+1) l
theorem AL {f:Nat} (H:List MB):∀(l:List AV) (i:Nat),mixOk pol f i l=true->frzArgs pol f i l H=some (l,H)
 | [],_,_=>rfl
 | x::l,i,h=>by
   simp only[mixOk,and_eq_true,Bool.or_eq_true]at h;have h2:=AL H l (i+1) h.2;cases hb:pol.byref f i with
   | true=>simp[frzArgs,hb,h2]
   | false=>
     have:AV.plain x=true:=by simpa [hb] using h.1
     simp[frzArgs,hb,h2,Az H this]
end Go.Ev
namespace Go.Ev
open Go.RowKit Go.IntWalk
variable {P:Program}{pol:Pol}
inductive KeepL (j:List AV->List MB->Option (List AV×List MB)):List AV->List AV->Prop where
 | nil:KeepL j [] []
 | cons {x y:AV}{a b:List AV} (h:∀ H,fzA j x H=some (y,H)) (t:KeepL j a b):KeepL j (x::a) (y::b)
theorem KeepL.fz {j:List AV->List MB->Option (List AV×List MB)}{a b:List AV} (h:KeepL j a b) (H:List MB):fzL j a H=some (b,H):=by
 induction h with
 | nil=>rfl
 | cons h _ ih=>simp only[fzL,h,ih]
theorem KeepL.append {j:List AV->List MB->Option (List AV×List MB)}{a b c d:List AV} (h:KeepL j a b) (h2:KeepL j c d):KeepL j (a++c) (b++d):=by
 induction h with
 | nil=>exact h2
 | cons h _ ih=>exact .cons h ih
theorem KeepL.plain {j:List AV->List MB->Option (List AV×List MB)}:∀ {a:List AV},AV.plainL a=true->KeepL j a a
 | [],_=>.nil
 | x::a,h=>by
   simp only[AV.plainL,and_eq_true]at h;exact .cons (fun H=>EF j x H h.1) (KeepL.plain h.2)
theorem KeepL.one {j:List AV->List MB->Option (List AV×List MB)}{x y:AV} (h:∀ H,fzA j x H=some (y,H)):KeepL j [x] [y]:=.cons h .nil
theorem KeepL.len {j:List AV->List MB->Option (List AV×List MB)}{a b:List AV} (h:KeepL j a b):b.length=a.length:=by
 induction h with
 | nil=>rfl
 | cons _ _ ih=>simp[ih]
theorem NZ {f k n:Nat}{args els:List AV}{fn:Func}{c:Code} (hf:P.funcs[f]?=some fn) (hc:fn.body=some c) (hn:(fn.name == "runtime.NumGoroutine")=false)
  (hp:pol.pure f=true) (he:pol.ext f=none) (hb:∀ i,pol.byref f i=false) (ha:AV.plainL args=true) (hels:AV.plainL els=true)
  (h:W P (call P pol) itL (pol.muts f) (cfgOf pol f 0) c ⟨args.length+(fn.ntmps-args.length),initT 0 args [],[]⟩ (endK P pol f [] fn.results.toList (.ms 0 k n 0 n,[.row k els 0])) .mk) (H:List MB) :
  call P pol f args H=some (.ms H.length k n 0 n,H++[.row k els 0]):=by
 rw[Bk];unfold evStep;rw[if_pos hp];simp only[CE hb H args 0 ha,AE 0 args ha,if_true];have hbody:evBody P pol (call P pol) itL f args []=some (.ms 0 k n 0 n,[.row k els 0]):=by
  refine Ip he hf hc hn ?_;rw[CE hb [] args 0 ha,BF];exact h
 rw[hbody];simp only[rebase,AE 0 els hels,if_true]
theorem Li {f id k n z:Nat}{els xs:List AV}{H H':List MB} (hk:pol.keep f=false) (ho:pol.own f=true) (hr:getRow H id=some (k,els,z)) (hl:els.length=n) (hz:fzs els H=some (xs,H')) (hr':getRow H' id=some (k,els,0))
  (hx:AV.plainL xs=true) (hxl:xs.length=n):retPol pol f [] (.ms id k n 0 n) H=some (.ms 0 k n 0 n,[.row k xs 0]):=by
 unfold retPol;simp only[hk,ho,false_eq_true,if_false,if_true,hr];rw[if_pos ⟨Nat.zero_le _,hl,trivial,by omega⟩];have ht:(els.drop 0).take n=els:=by rw[List.drop_zero];exact take_of_length_le (Nat.le_of_eq hl)
 simp only[ht,hz,hr',length_nil];rw[if_pos ⟨AE 0 xs hx,F0 [] H',hxl,Nat.zero_le _⟩];simp
theorem B6 {H:List MB}{sT xT e k by_ id n z:Nat}{ze x:AV}{els ys:List AV} (he:tyElem P sT=some e) (hxT:tyNotInt P xT=true) (hk:tySz P e=some k) (hby:tyBytes P e=some by_) (hze:tyZero P e=some ze) (hzl:ze.cells.length=k) (hk0:0<k)
  (hs:srcElems P H e x=some ys) (hw:ys.all (fun y=>decide (y.cells.length=k)&&y.cells.all AV.ok)=true) (hr:getRow H id=some (k,els,z)) (hl:els.length=n) (hz:z<=n) (hroom:roomFor (n+ys.length) by_=true) :
  evAppend P H sT xT (.ms id k n 0 n) x=some (.ms id k (n+ys.length) 0 (n+ys.length),H.set id (.row k (els++ys) z)):=by
 unfold evAppend;simp only[he,hxT,hk,hby,hze,hs];rw[if_pos ⟨hw,hk0,hzl⟩];simp only[hr];rw[if_pos ⟨hl,trivial,trivial,by omega⟩];have hid:=(List.getElem?_eq_some_iff.1 (Bp hr)).1;cases ys with
 | nil=>
   simp only[length_nil,Nat.add_zero,List.append_nil];have:H.set id (.row k els z)=H:=by
    apply List.ext_getElem?;intro q;by_cases e:id=q
    ·subst e;rw[List.getElem?_set_self hid,Bp hr]
    ·rw[List.getElem?_set_ne e]
   rw[this]
 | cons y ys=>
   simp only[];rw[if_pos ⟨by omega,hroom⟩,if_neg (by simp)];have ht:els.take (0+n)=els:=take_of_length_le (by omega);rw[ht];simp
end Go.Ev
