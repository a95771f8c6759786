/- Evaluation without fuel: the limit of evaluation with ever more of it. -/
import Derived.Test.YtmfpcondongbjaaGreatM06
import Derived.IntWalk
import Derived.Attr
set_option linter.unusedVariables false
set_option linter.unusedSimpArgs false
open Bool (and_eq_true false_eq_true)
open List (drop_zero length_nil nil_append take_of_length_le)
namespace Go.Ev
open Go.RowKit
variable {P:Program}{pol:Pol}{cf cf':CF}{it:It}{mu:List Nat}{m:Cfg}
theorem Cd {b b':St->Option (EX×St)} (h:∀ s r,b s=some r->b' s=some r) (m:Msk):∀(n n':Nat) (s:St) (r:EX×St),n<=n'->iterN b m n s=some r->iterN b' m n' s=some r
 | 0,n',s,r,_,h1=>by simp[iterN]at h1
 | n+1,0,s,r,hn,_=>by omega
 | n+1,n' + 1,s,r,hn,h1=>by
   simp only[iterN]at h1 |-;cases hb:b (prep m s) with
   | none=>rw[hb]at h1;simp at h1
   | some q=>
     rw[hb]at h1;rw[h _ _ hb];obtain⟨e,s'⟩:=q;cases e with
     | norm=>exact Cd h m n n' s' r (by omega) h1
     | exit id=>exact h1
     | ret=>exact h1
open Classical in
noncomputable def itL:It:=fun b m s=>if h:∃ r,∃ n,iterN b m n s=some r then some h.choose else none
theorem DK {b:St->Option (EX×St)}{m:Msk}{s:St}{r:EX×St}:itL b m s=some r↔∃ n,iterN b m n s=some r:=by
 unfold itL;constructor
 ·intro h;split at h
  ·rename_i hx;simp at h;subst h;exact hx.choose_spec
  ·simp at h
 ·rintro⟨n,hn⟩;rw[dif_pos ⟨r,n,hn⟩];obtain⟨n',hn'⟩:=(show ∃ r,∃ n,iterN b m n s=some r from⟨r,n,hn⟩).choose_spec;have h1:=Cd (b:=b) (fun _ _ h=>h) m n (n+n') s r (by omega) hn;have h2:=Cd (b:=b) (fun _ _ h=>h) m n' (n+n') s _ (by omega) hn';rw[h1]at h2;exact h2.symm
theorem B4:ItOk itL:=fun _ _ _ _ h=>DK.1 h
theorem Lz (b:St->Option (EX×St)) (m:Msk) (s:St):itL b m s=match b (prep m s) with
  | some (.norm,s')=>itL b m s'
  | r=>r:=by
 apply Option.ext;intro r;rw[DK];cases hb:b (prep m s) with
 | none=>
   simp only[];constructor
   ·rintro⟨n,hn⟩;cases n with
    | zero=>simp[iterN]at hn
    | succ n=>simp[iterN,hb]at hn
   ·intro h;simp at h
 | some q=>
   obtain⟨e,s'⟩:=q;cases e with
   | norm=>
     simp only[];rw[DK];constructor
     ·rintro⟨n,hn⟩;cases n with
      | zero=>simp[iterN]at hn
      | succ n=>exact⟨n,by simpa [iterN,hb] using hn⟩
     ·rintro⟨n,hn⟩;exact⟨n+1,by simpa [iterN,hb] using hn⟩
   | exit id=>
     constructor
     ·rintro⟨n,hn⟩;cases n with
      | zero=>simp[iterN]at hn
      | succ n=>simpa [iterN,hb] using hn
     ·intro h;exact⟨1,by simpa [iterN,hb] using h⟩
   | ret=>
     constructor
     ·rintro⟨n,hn⟩;cases n with
      | zero=>simp[iterN]at hn
      | succ n=>simpa [iterN,hb] using hn
     ·intro h;exact⟨1,by simpa [iterN,hb] using h⟩
def CLe (cf cf':CF):Prop:=∀ f args H r,cf f args H=some r->cf' f args H=some r
def ItLe (it it':It):Prop:=∀ b b' m s r,(∀ s r,b s=some r->b' s=some r)->it b m s=some r->it' b' m s=some r
theorem EB:ItLe itL itL:=fun b b' m s r h h1=>by
 rw[DK]at h1 |-;obtain⟨n,hn⟩:=h1;exact⟨n,Cd h m n n s r (Nat.le_refl _) hn⟩
theorem RD (n:Nat):ItLe (fun b m s=>iterN b m n s) itL:=fun b b' m s r h h1=>DK.2 ⟨n,Cd h m n n s r (Nat.le_refl _) h1⟩
theorem Hp (h:CLe cf cf') {g:Nat}{args:List AV}{H:List MB}{r:AV×List MB} (h1:cfn cf g args H=some r):cfn cf' g args H=some r:=by
 unfold cfn at h1 |-;split at h1
 ·cases h1
 ·rename_i hg;rw[if_neg hg];exact h _ _ _ _ h1
theorem Jv (h:CLe cf cf'):CLe (evAlone cf) (evAlone cf'):=by
 intro f args H r h1;unfold evAlone at h1 |-;split at h1
 ·rename_i hu;split at h1
  ·rename_i r0 h0;rw[if_pos hu,h _ _ _ _ h0];exact h1
  ·cases h1
 ·cases h1
theorem K1 (h:CLe cf cf'):CLe (evThaw cf) (evThaw cf'):=by
 intro f args H r h1;unfold evThaw at h1 |-;split at h1
 ·rename_i as ha;split at h1
  ·rename_i k n K h0;rw[h _ _ _ _ h0];exact h1
  ·cases h1
 ·cases h1
theorem NZ (h:CLe cf cf') {ρ:Operand->AV}{H:List MB}{o:Oper}{r:AV×List MB} (h1:evOp P cf mu ρ H o=some r):evOp P cf' mu ρ H o=some r:=by
 obtain⟨dst,op,type,pos,after,guard⟩:=o;cases op
 case makeFunc fn first cap=>cases fn<;>exact h1
 case call c=>
  obtain⟨callee,args,ats⟩:=c;cases callee with
  | builtin b=>exact h1
  | invoke x y=>exact h1
  | value f=>
    have key:∀ {c1 c2:CF},CLe c1 c2->evCall c1 ρ H type ⟨.value f,args,ats⟩=some r->evCall c2 ρ H type ⟨.value f,args,ats⟩=some r:=by
     intro c1 c2 h h1;simp only[evCall]at h1 |-;split at h1
     ·exact Hp h h1
     ·exact Hp h h1
     ·exact h _ _ _ _ h1
     ·simp at h1
    simp only[evOp]at h1 |-;split at h1
    ·rename_i hi;rw[if_pos hi];exact key (Jv h) h1
    ·rename_i hi;rw[if_neg hi];split at h1
     ·rename_i hj;rw[if_pos hj];exact key (K1 h) h1
     ·rename_i hj;rw[if_neg hj];exact key h h1
 all_goals exact h1
theorem Cf (h:CLe cf cf') {ops:List Oper}{o:Oper}{s s':St} (h1:evOne P cf mu ops o s=some s'):evOne P cf' mu ops o s=some s':=by
 unfold evOne at h1 |-;split at h1
 ·split at h1
  ·rename_i v H hop;simp only[NZ h hop];exact h1
  ·simp at h1
 ·exact h1
 ·simp at h1
theorem E4 (h:CLe cf cf') {ops:List Oper}:∀(l:List Oper) {s s':St},evOps P cf mu ops l s=some s'->evOps P cf' mu ops l s=some s'
 | [],s,s',h1=>h1
 | o::l,s,s',h1=>by
   simp only[evOps]at h1 |-;split at h1
   ·rename_i s1 hs;rw[Cf h hs];exact E4 h l h1
   ·simp at h1
theorem Cr (h:CLe cf cf') {ops:List Oper}:∀(l:List Oper) (i:Nat) {s:St}{r:List (Nat×FP)×St},evOpsD P cf mu ops i l s=some r->evOpsD P cf' mu ops i l s=some r
 | [],i,s,r,h1=>h1
 | o::l,i,s,r,h1=>by
   simp only[evOpsD]at h1 |-;split at h1
   ·rename_i b hb;split at h1
    ·rename_i s1 hs;rw[Cf h hs];simp only[];split at h1
     ·rename_i fl s2 h2;rw[Cr h l (i+1) h2];exact h1
     ·simp at h1
    ·simp at h1
   ·simp at h1
theorem DT (h:CLe cf cf') {ops:List Oper}:∀(l:List Nat) {s:St}{r:List (Nat×FP)×St},evOpsI P cf mu ops l s=some r->evOpsI P cf' mu ops l s=some r
 | [],s,r,h1=>h1
 | i::l,s,r,h1=>by
   simp only[evOpsI]at h1 |-;split at h1
   ·simp at h1
   ·rename_i o ho;split at h1
    ·rename_i b hb;split at h1
     ·rename_i s1 hs;rw[Cf h hs];simp only[];split at h1
      ·rename_i fl s2 h2;rw[DT h l h2];exact h1
      ·simp at h1
     ·simp at h1
    ·simp at h1
theorem II (h:CLe cf cf') {ops:Array Oper}{al:Option (Nat×Nat×List Nat)}{d:Bool}{s s':St} (h1:evRegion P cf mu ops al d s=some s'):evRegion P cf' mu ops al d s=some s':=by
 unfold evRegion at h1 |-;split at h1
 ·rename_i hd;rw[if_pos hd];split at h1
  ·split at h1
   ·rename_i fl s1 h2;rw[Cr h _ _ h2];exact h1
   ·simp at h1
  ·split at h1
   ·rename_i fl s1 h2;rw[Cr h _ _ h2];simp only[];split at h1
    ·rename_i fl2 s2 h3;rw[DT h _ h3];exact h1
    ·simp at h1
   ·simp at h1
 ·rename_i hd;rw[if_neg hd];exact E4 h _ h1
theorem BJ (h:CLe cf cf') {it it':It} (hi:ItLe it it'):∀(c:Code) {s:St}{r:EX×St},evCode P cf it mu m c s=some r->evCode P cf' it' mu m c s=some r
 | .skip,s,r,h1=>h1
 | .label _,s,r,h1=>h1
 | .region _ ops d,s,r,h1=>by
   simp only[evCode]at h1 |-;cases hr:evRegion P cf mu ops (m.al _) d s with
   | none=>rw[hr]at h1;simp at h1
   | some s1=>rw[hr]at h1;rw[II h hr];exact h1
 | .seq a b,s,r,h1=>by
   simp only[evCode]at h1 |-;cases ha:evCode P cf it mu m a s with
   | none=>rw[ha]at h1;simp at h1
   | some q=>
     rw[ha]at h1;rw[BJ h hi a ha];obtain⟨e,s1⟩:=q;cases e with
     | norm=>exact BJ h hi b h1
     | exit id=>exact h1
     | ret=>exact h1
 | .cond c x y,s,r,h1=>by
   simp only[evCode]at h1 |-;split at h1
   ·exact BJ h hi x h1
   ·exact BJ h hi y h1
   ·simp at h1
 | .block id b,s,r,h1=>by
   simp only[evCode]at h1 |-;cases hb:evCode P cf it mu m b s with
   | none=>rw[hb]at h1;simp at h1
   | some q=>
     rw[hb]at h1;rw[BJ h hi b hb];exact h1
 | .loop b,s,r,h1=>by
   simp only[evCode]at h1 |-;exact hi _ _ _ _ _ (fun s r hh=>BJ h hi b hh) h1
 | .scope b,s,r,h1=>by
   simp only[evCode]at h1 |-;exact BJ h hi b h1
 | .exit _,s,r,h1=>h1
 | .ret,s,r,h1=>h1
 | .rangeFunc _ _ _ b,s,r,h1=>by
   simp only[evCode]at h1 |-;split at h1
   ·rename_i f hh cs hmf hg;split at h1
    ·rename_i v H' hc;rw[Hp h hc];exact h1
    ·cases h1
   ·cases h1
 | .goto _,s,r,h1=>by simp[evCode]at h1
 | .refuse _,s,r,h1=>by simp[evCode]at h1
theorem GN (h:CLe cf cf') {it it':It} (hi:ItLe it it'):CLe (evBody P pol cf it) (evBody P pol cf' it'):=by
 intro f args H r h1;unfold evBody at h1 |-;split at h1
 ·exact h1
 ·split at h1
  ·simp at h1
  ·rename_i fn hfn;split at h1
   ·simp at h1
   ·rename_i c hc;split at h1
    ·simp at h1
    ·rename_i hn;rw[if_neg hn];split at h1
     ·simp at h1
     ·rename_i as H1 hz;cases hev:evCode P cf it (pol.muts f) (cfgOf pol f H1.length) c { n:=as.length+(fn.ntmps-as.length),t:=initT 0 as [],h:=H1 } with
      | none=>rw[hev]at h1;simp at h1
      | some q=>
        rw[hev]at h1;rw[BJ h hi c hev];exact h1
theorem Jo (h:CLe cf cf') {it it':It} (hi:ItLe it it') {args:List AV}{H:List MB}{r:AV×List MB} (h1:evYield P pol cf it args H=some r):evYield P pol cf' it' args H=some r:=by
 unfold evYield at h1 |-;split at h1
 ·split at h1
  ·rename_i hm;split at h1
   ·rename_i s hb;split at h1
    ·rename_i s1 hasg;rw[BJ h hi _ hasg];simp only[];split at h1
     ·rename_i s2 hbeg;split at h1
      ·rename_i e s' hev;rw[BJ h hi _ hev];exact h1
      ·cases h1
     ·cases h1
    ·cases h1
   ·cases h1
  ·cases h1
 ·cases h1
theorem ED (h:CLe cf cf') {it it':It} (hi:ItLe it it'):CLe (evStep P pol cf it) (evStep P pol cf' it'):=by
 intro f args H r h1;unfold evStep at h1 |-;split at h1
 ·rename_i hp;rw[if_pos hp];split at h1
  ·rename_i as H1 hz;split at h1
   ·rename_i hu;rw[if_pos hu];cases hb:evBody P pol cf it f as [] with
    | none=>rw[hb]at h1;simp[rebase]at h1
    | some q=>
      rw[hb]at h1;rw[GN h hi f as [] q hb];exact h1
   ·simp at h1
  ·simp at h1
 ·rename_i hp;rw[if_neg hp];split at h1
  ·rename_i hy;rw[if_pos hy];exact Jo h hi h1
  ·rename_i hy;rw[if_neg hy];exact GN h hi f args H r h1
noncomputable def cL (P:Program) (pol:Pol):Nat->CF
 | 0=>fun _ _ _=>none
 | k+1=>evStep P pol (cL P pol k) itL
theorem QU (k:Nat):CLe (cL P pol k) (cL P pol (k+1)):=by
 induction k with
 | zero=>intro f args H r h;simp[cL]at h
 | succ k ih=>exact ED ih EB
theorem B9 {k k':Nat} (h:k<=k'):CLe (cL P pol k) (cL P pol k'):=by
 induction h with
 | refl=>exact fun _ _ _ _ h=>h
 | step _ ih=>exact fun f a H r h=>QU _ f a H r (ih f a H r h)
open Classical in
noncomputable def call (P:Program) (pol:Pol):CF:=fun f args H=>if h:∃ r,∃ k,cL P pol k f args H=some r then some h.choose else none
theorem CK {f:Nat}{args:List AV}{H:List MB}{r:AV×List MB}:call P pol f args H=some r↔∃ k,cL P pol k f args H=some r:=by
 unfold call;constructor
 ·intro h;split at h
  ·rename_i hx;simp at h;subst h;exact hx.choose_spec
  ·simp at h
 ·rintro⟨k,hk⟩;rw[dif_pos ⟨r,k,hk⟩];obtain⟨k',hk'⟩:=(show ∃ r,∃ k,cL P pol k f args H=some r from⟨r,k,hk⟩).choose_spec;have h1:=B9 (show k<=k+k' by omega) _ _ _ _ hk;have h2:=B9 (show k'<=k+k' by omega) _ _ _ _ hk';rw[h1]at h2;exact h2.symm
theorem MI (k:Nat):CLe (cL P pol k) (call P pol):=fun _ _ _ _ h=>CK.2 ⟨k,h⟩
theorem Jz {c1:CF}{c2:Nat->CF} (hc:∀ f as H r,c1 f as H=some r->∃ k,c2 k f as H=some r) {g:Nat}{args:List AV}{H:List MB}{r:AV×List MB} (h:cfn c1 g args H=some r):∃ k,cfn (c2 k) g args H=some r:=by
 unfold cfn at h;split at h
 ·cases h
 ·rename_i hg;obtain⟨k,hk⟩:=hc _ _ _ _ h;exact⟨k,by unfold cfn;rw[if_neg hg];exact hk⟩
theorem Fv {ops:List Oper}{o:Oper}{s s':St} (h:evOne P (call P pol) mu ops o s=some s'):∃ k,evOne P (cL P pol k) mu ops o s=some s':=by
 have hop:∀ {v},evOp P (call P pol) mu s.ev s.h o=some v->∃ k,evOp P (cL P pol k) mu s.ev s.h o=some v:=by
  intro v hv;obtain⟨dst,op,type,pos,after,guard⟩:=o;cases op
  case makeFunc fn first cap=>cases fn<;>exact⟨0,hv⟩
  case call c=>
   obtain⟨callee,args,ats⟩:=c;cases callee with
   | builtin b=>exact⟨0,hv⟩
   | invoke x y=>exact⟨0,hv⟩
   | value f=>
     have key:∀(c1:CF) (c2:Nat->CF),(∀ f as H r,c1 f as H=some r->∃ k,c2 k f as H=some r)->evCall c1 s.ev s.h type ⟨.value f,args,ats⟩=some v->∃ k,evCall (c2 k) s.ev s.h type ⟨.value f,args,ats⟩=some v:=by
      intro c1 c2 hc hv;simp only[evCall]at hv |-;split at hv
      ·rename_i g cs hg;exact Jz hc hv
      ·rename_i g cs hg;exact Jz hc hv
      ·exact hc _ _ _ _ hv
      ·simp at hv
     simp only[evOp]at hv |-;split at hv
     ·rename_i hi;simp only[if_pos hi];refine key (evAlone (call P pol)) (fun k=>evAlone (cL P pol k)) (fun f as H r h=>?_) hv;unfold evAlone at h;split at h
      ·rename_i hu;split at h
       ·rename_i r0 h0;obtain⟨k,hk⟩:=CK.1 h0;refine⟨k,?_⟩;unfold evAlone;rw[if_pos hu,show cL P pol k f as []=_ from hk];exact h
       ·cases h
      ·cases h
     ·rename_i hi;simp only[if_neg hi];split at hv
      ·rename_i hj;simp only[if_pos hj];refine key (evThaw (call P pol)) (fun k=>evThaw (cL P pol k)) (fun f as H r h=>?_) hv;unfold evThaw at h;split at h
       ·rename_i as' ha;split at h
        ·rename_i k0 n0 K h0;obtain⟨k,hk⟩:=CK.1 h0;refine⟨k,?_⟩;unfold evThaw;rw[ha];simp only[];rw[show cL P pol k f as' []=_ from hk];exact h
        ·cases h
       ·cases h
      rename_i hj;simp only[if_neg hj];exact key (call P pol) (fun k=>cL P pol k) (fun f as H r h=>CK.1 h) hv
  all_goals exact⟨0,hv⟩
 unfold evOne at h;split at h
 ·rename_i hw;split at h
  ·rename_i v H hv;obtain⟨k,hk⟩:=hop hv;exact⟨k,by unfold evOne;rw[hw];simp only[hk];exact h⟩
  ·simp at h
 ·rename_i hw;exact⟨0,by unfold evOne;rw[hw];exact h⟩
 ·simp at h
theorem JA {ops:List Oper}:∀(l:List Oper) {s s':St},evOps P (call P pol) mu ops l s=some s'->∃ k,evOps P (cL P pol k) mu ops l s=some s'
 | [],s,s',h=>⟨0,h⟩
 | o::l,s,s',h=>by
   simp only[evOps]at h;split at h
   ·rename_i s1 h1;obtain⟨k1,e1⟩:=Fv h1;obtain⟨k2,e2⟩:=JA l h;refine⟨k1+k2,?_⟩;simp only[evOps];rw[Cf (B9 (by omega)) e1];exact E4 (B9 (by omega)) l e2
   ·simp at h
theorem E5 {ops:List Oper}:∀(l:List Oper) (i:Nat) {s:St}{r:List (Nat×FP)×St},evOpsD P (call P pol) mu ops i l s=some r->∃ k,evOpsD P (cL P pol k) mu ops i l s=some r
 | [],i,s,r,h=>⟨0,h⟩
 | o::l,i,s,r,h=>by
   simp only[evOpsD]at h;split at h
   ·rename_i b hb;split at h
    ·rename_i s1 h1;split at h
     ·rename_i fl s2 h2;obtain⟨k1,e1⟩:=Fv h1;obtain⟨k2,e2⟩:=E5 l (i+1) h2;refine⟨k1+k2,?_⟩;simp only[evOpsD];rw[hb,Cf (B9 (by omega)) e1];simp only[];rw[Cr (B9 (show k2<=k1+k2 by omega)) l (i+1) e2];exact h
     ·simp at h
    ·simp at h
   ·simp at h
theorem Hb {ops:List Oper}:∀(l:List Nat) {s:St}{r:List (Nat×FP)×St},evOpsI P (call P pol) mu ops l s=some r->∃ k,evOpsI P (cL P pol k) mu ops l s=some r
 | [],s,r,h=>⟨0,h⟩
 | i::l,s,r,h=>by
   simp only[evOpsI]at h;split at h
   ·simp at h
   ·rename_i o ho;split at h
    ·rename_i b hb;split at h
     ·rename_i s1 h1;split at h
      ·rename_i fl s2 h2;obtain⟨k1,e1⟩:=Fv h1;obtain⟨k2,e2⟩:=Hb l h2;refine⟨k1+k2,?_⟩;simp only[evOpsI];rw[ho];simp only[];rw[hb,Cf (B9 (by omega)) e1];simp only[];rw[DT (B9 (show k2<=k1+k2 by omega)) l e2];exact h
      ·simp at h
     ·simp at h
    ·simp at h
theorem Js {ops:Array Oper}{al:Option (Nat×Nat×List Nat)}{d:Bool}{s s':St} (h:evRegion P (call P pol) mu ops al d s=some s'):∃ k,evRegion P (cL P pol k) mu ops al d s=some s':=by
 unfold evRegion at h;split at h
 ·rename_i hd;split at h
  ·split at h
   ·rename_i fl s1 h2;obtain⟨k,e⟩:=E5 _ _ h2;exact⟨k,by unfold evRegion;rw[if_pos hd];simp only[];rw[e];exact h⟩
   ·simp at h
  ·split at h
   ·rename_i fl s1 h2;split at h
    ·rename_i fl2 s2 h3;obtain⟨k1,e1⟩:=E5 _ _ h2;obtain⟨k2,e2⟩:=Hb _ h3;refine⟨k1+k2,?_⟩;unfold evRegion;rw[if_pos hd];simp only[];rw[Cr (B9 (show k1<=k1+k2 by omega)) _ _ e1];simp only[];rw[DT (B9 (show k2<=k1+k2 by omega)) _ e2];exact h
    ·simp at h
   ·simp at h
 ·rename_i hd;obtain⟨k,e⟩:=JA _ h;exact⟨k,by unfold evRegion;rw[if_neg hd];exact e⟩
theorem B5:∀(c:Code) {s:St}{r:EX×St},evCode P (call P pol) itL mu m c s=some r->∃ k,evCode P (cL P pol k) itL mu m c s=some r
 | .skip,s,r,h=>⟨0,h⟩
 | .label _,s,r,h=>⟨0,h⟩
 | .region _ ops d,s,r,h=>by
   simp only[evCode]at h;cases hr:evRegion P (call P pol) mu ops (m.al _) d s with
   | none=>rw[hr]at h;simp at h
   | some s1=>
     obtain⟨k,e⟩:=Js hr;refine⟨k,?_⟩;rw[hr]at h;simp only[evCode,e];exact h
 | .seq a b,s,r,h=>by
   simp only[evCode]at h;cases ha:evCode P (call P pol) itL mu m a s with
   | none=>rw[ha]at h;simp at h
   | some q=>
     rw[ha]at h;obtain⟨k1,e1⟩:=B5 a ha;obtain⟨e,s1⟩:=q;cases e with
     | norm=>
       obtain⟨k2,e2⟩:=B5 b h;refine⟨k1+k2,?_⟩;simp only[evCode];rw[BJ (B9 (show k1<=k1+k2 by omega)) EB a e1];exact BJ (B9 (show k2<=k1+k2 by omega)) EB b e2
     | exit id=>exact⟨k1,by simp only[evCode,e1];exact h⟩
     | ret=>exact⟨k1,by simp only[evCode,e1];exact h⟩
 | .cond c x y,s,r,h=>by
   simp only[evCode]at h;split at h
   ·rename_i hc;obtain⟨k,e⟩:=B5 x h;exact⟨k,by simp only[evCode,hc];exact e⟩
   ·rename_i hc;obtain⟨k,e⟩:=B5 y h;exact⟨k,by simp only[evCode,hc];exact e⟩
   ·simp at h
 | .block id b,s,r,h=>by
   simp only[evCode]at h;cases hb:evCode P (call P pol) itL mu m b s with
   | none=>rw[hb]at h;simp at h
   | some q=>
     rw[hb]at h;obtain⟨k,e⟩:=B5 b hb;exact⟨k,by simp only[evCode,e];exact h⟩
 | .loop b,s,r,h=>by
   simp only[evCode]at h;rw[DK]at h;obtain⟨n,hn⟩:=h
   suffices hs:∀ n s,iterN (fun s=>evCode P (call P pol) itL mu m b s) (m.lp (loopId b)) n s=some r->∃ k,iterN (fun s=>evCode P (cL P pol k) itL mu m b s) (m.lp (loopId b)) n s=some r by
    obtain⟨k,e⟩:=hs n s hn;exact⟨k,by simp only[evCode];exact DK.2 ⟨n,e⟩⟩
   clear hn n;intro n
   induction n with
   | zero=>intro s hn;simp[iterN]at hn
   | succ n ih=>
     intro s hn;simp only[iterN]at hn;cases hb:evCode P (call P pol) itL mu m b (prep (m.lp (loopId b)) s) with
     | none=>rw[hb]at hn;simp at hn
     | some q=>
       rw[hb]at hn;obtain⟨k1,e1⟩:=B5 b hb;obtain⟨e,s1⟩:=q;cases e with
       | norm=>
         obtain⟨k2,e2⟩:=ih s1 hn;refine⟨k1+k2,?_⟩;simp only[iterN];rw[BJ (B9 (show k1<=k1+k2 by omega)) EB b e1];exact Cd (fun s r hh=>BJ (B9 (show k2<=k1+k2 by omega)) EB b hh) (m.lp (loopId b)) n n s1 r (Nat.le_refl _) e2
       | exit id=>exact⟨k1,by simp only[iterN,e1];exact hn⟩
       | ret=>exact⟨k1,by simp only[iterN,e1];exact hn⟩
 | .scope b,s,r,h=>by
   simp only[evCode]at h;obtain⟨k,e⟩:=B5 b h;exact⟨k,by simp only[evCode];exact e⟩
 | .exit _,s,r,h=>⟨0,h⟩
 | .ret,s,r,h=>⟨0,h⟩
 | .rangeFunc _ _ _ b,s,r,h=>by
   simp only[evCode]at h;split at h
   ·rename_i f hh cs hmf hg;split at h
    ·rename_i v H' hc;obtain⟨k,hk⟩:=Jz (c2:=cL P pol) (fun f as H r h=>CK.1 h) hc;refine⟨k,?_⟩;simp only[evCode,hmf,hg,hk];exact h
    ·cases h
   ·cases h
 | .goto _,s,r,h=>by simp[evCode]at h
 | .refuse _,s,r,h=>by simp[evCode]at h
theorem He {f:Nat}{args:List AV}{H:List MB}{r:AV×List MB} (h:evBody P pol (call P pol) itL f args H=some r):∃ k,evBody P pol (cL P pol k) itL f args H=some r:=by
 unfold evBody at h |-;split at h
 ·exact⟨0,h⟩
 ·split at h
  ·simp at h
  ·rename_i fn hfn;split at h
   ·simp at h
   ·rename_i c hc;split at h
    ·simp at h
    ·rename_i hn;split at h
     ·simp at h
     ·rename_i as H1 hz;cases hev:evCode P (call P pol) itL (pol.muts f) (cfgOf pol f H1.length) c { n:=as.length+(fn.ntmps-as.length),t:=initT 0 as [],h:=H1 } with
      | none=>rw[hev]at h;simp at h
      | some q=>
        obtain⟨k,e⟩:=B5 c hev;refine⟨k,?_⟩;rw[hev]at h;rw[if_neg hn,e];exact h
theorem K0 {args:List AV}{H:List MB}{r:AV×List MB} (h:evYield P pol (call P pol) itL args H=some r):∃ k,evYield P pol (cL P pol k) itL args H=some r:=by
 unfold evYield at h |-;split at h
 ·split at h
  ·rename_i hm;split at h
   ·rename_i s hb;split at h
    ·rename_i s1 hasg;split at h
     ·rename_i s2 hbeg;split at h
      ·rename_i e s' hev;obtain⟨k1,e1⟩:=B5 _ hasg;obtain⟨k2,e2⟩:=B5 _ hev;refine⟨k1+k2,?_⟩;rw[BJ (B9 (show k1<=k1+k2 by omega)) EB _ e1];simp only[];rw[hbeg];simp only[];rw[BJ (B9 (show k2<=k1+k2 by omega)) EB _ e2];exact h
      ·cases h
     ·cases h
    ·cases h
   ·cases h
  ·cases h
 ·cases h
theorem BO:call P pol=evStep P pol (call P pol) itL:=by
 funext f args H
 apply Option.ext;intro r;constructor
 ·intro h;obtain⟨k,hk⟩:=CK.1 h;cases k with
  | zero=>simp[cL]at hk
  | succ k=>exact ED (MI k) EB f args H r hk
 ·intro h;rw[CK]
  suffices ∃ k,evStep P pol (cL P pol k) itL f args H=some r by
   obtain⟨k,e⟩:=this;exact⟨k+1,e⟩
  unfold evStep at h |-;split at h
  ·rename_i hp;split at h
   ·rename_i as H1 hz;split at h
    ·rename_i hu;cases hb:evBody P pol (call P pol) itL f as [] with
     | none=>rw[hb]at h;simp[rebase]at h
     | some q=>
       obtain⟨k,e⟩:=He hb;rw[hb]at h;exact⟨k,by rw[if_pos hp,if_pos hu,e];exact h⟩
    ·simp at h
   ·simp at h
  ·rename_i hp;split at h
   ·rename_i hy;obtain⟨k,e⟩:=K0 h;exact⟨k,by rw[if_neg hp,if_pos hy];exact e⟩
   ·rename_i hy;obtain⟨k,e⟩:=He h;exact⟨k,by rw[if_neg hp,if_neg hy];exact e⟩
theorem Gk (hext:ExtOk P pol) (hm:P.follows .mixedOrders=true):CfOk P (call P pol):=by
 have hk:∀ k,CfOk P (cL P pol k):=by
  intro k
  induction k with
  | zero=>exact⟨fun f args H r H' _ h=>by simp[cL]at h,fun args H r H' h=>by simp[cL]at h⟩
  | succ k ih=>exact Jr hext ih B4 hm
 refine⟨fun f args H r H' hf h=>?_,fun args H r H' h=>?_⟩
 ·obtain⟨k,e⟩:=CK.1 h;exact(hk k).1 f args H r H' hf e
 ·obtain⟨k,e⟩:=CK.1 h;exact(hk k).2 args H r H' e
theorem Bu {n:Nat}:∀(k:Nat),CLe (evF P pol n k) (call P pol)
 | 0=>fun f args H r h=>by simp[evF]at h
 | k+1=>fun f args H r h=>by
   rw[BO];exact ED (Bu k) (RD n) f args H r (by simpa [evF] using h)
universe u v
open Go.RowKit
variable {P:Program}{pol:Pol}{cf:CF}{it:It}{mu:List Nat}{m:Cfg}
structure Tag {α:Sort u} (a:α):Type where
structure Tag2 {α:Sort u} {β:Sort v} (a:α) (b:β):Type where
def bindW {α:Type} (o:Option α) (Q:α->Prop) (_t:Tag Q):Prop:=∃ v,o=some v/\Q v
theorem A4 {α:Type} (v:α) (Q:α->Prop) (τ:Tag Q):bindW (some v) Q τ=Q v:=by simp[bindW]
theorem Ds {α:Type} (Q:α->Prop) (τ:Tag Q):bindW none Q τ=False:=by simp[bindW]
theorem F1 {α β:Type} (o:Option α) (f:α->β) (Q:β->Prop) (τ:Tag Q):bindW (o.map f) Q τ=bindW o (fun v=>Q (f v)) .mk:=by
 cases o<;>simp[bindW]
theorem Nk {α:Type} (c:Prop) [Decidable c] (a:Option α) (Q:α->Prop) (τ:Tag Q):bindW (if c then a else none) Q τ=(c/\bindW a Q .mk):=by
 by_cases h:c<;>simp[h,bindW]
theorem MK {α:Type} (c:Prop) [Decidable c] (a:Option α) (Q:α->Prop) (τ:Tag Q):bindW (if c then none else a) Q τ=(¬c/\bindW a Q .mk):=by
 by_cases h:c<;>simp[h,bindW]
def splitB (b:Bool) (X Y:Prop) (_t:Tag2 X Y):Prop:=(b=true->X)/\(b=false->Y)
section
variable (X Y:Prop) (τ:Tag2 X Y)
theorem CU:splitB true X Y τ=X:=by simp[splitB]
theorem CI:splitB false X Y τ=Y:=by simp[splitB]
theorem H9 (p:Prop) [Decidable p]:splitB (decide p) X Y τ=((p->X)/\(¬p->Y)):=by simp[splitB]
theorem Lg {α:Type} [DecidableEq α] (a b:α):splitB (a==b) X Y τ=((a=b->X)/\(a≠b->Y)):=by simp[splitB]
theorem Lf {α:Type} [DecidableEq α] (a b:α):splitB (a != b) X Y τ=((a≠b->X)/\(a=b->Y)):=by simp[splitB]
theorem Le (b:Bool):splitB (!b) X Y τ=splitB b Y X .mk:=by cases b<;>simp[splitB]
end
def asB:AV->Option Bool
 | .bool b=>some b
 | _=>none
theorem LK (b:Bool):asB (.bool b)=some b:=rfl
def WO (P:Program) (cf:CF) (mu:List Nat) (ops rest:List Oper) (s:St) (Q:St->Prop) (_t:Tag2 rest Q):Prop:=bindW (evOps P cf mu ops rest s) Q .mk
theorem RZ {ops:List Oper}{s:St}{Q:St->Prop} {τ}:WO P cf mu ops [] s Q τ=Q s:=by simp[WO,evOps,bindW]
theorem Qb {ops rest:List Oper} {dst op ty pos after}{n:Nat}{t:Tm}{H:List MB}{Q:St->Prop} {τ} :
  WO P cf mu ops (⟨dst,op,ty,pos,after,none⟩::rest) ⟨n,t,H⟩ Q τ =
   bindW (evOp P cf mu (St.ev ⟨n,t,H⟩) H ⟨dst,op,ty,pos,after,none⟩) (fun q=>WO P cf mu ops rest (St.put ⟨n,t,q.2⟩ dst q.1) Q .mk) .mk:=by
 simp only[WO,evOps,evOne,evWanted];cases h:evOp P cf mu (St.ev ⟨n,t,H⟩) H ⟨dst,op,ty,pos,after,none⟩ with
 | none=>simp[bindW]
 | some q=>simp[bindW]
def guardV (ops:List Oper) (j:Nat) (t:Tm):Option (Nat×AV):=
 match ops[j]? with
 | some q=>match q.dst with
   | some d=>(look t d).map fun v=>(d,v)
   | none=>some (0,.tup [])
 | none=>some (0,.tup [])
def upd (d:Nat) (v:AV):Tm->Tm
 | []=>[]
 | (k,u)::t=>if k=d then(k,v)::t else(k,u)::upd d v t
def guardW (q:Nat×AV) (w:Bool) (t:Tm) (X:Tm->Prop) (Y:Tm->Prop) (_t:Tag2 X Y):Prop:=
 match q.2 with
 | .bool b=>splitB b (if w=true then X (upd q.1 (.bool true) t) else Y (upd q.1 (.bool true) t)) (if w=false then X (upd q.1 (.bool false) t) else Y (upd q.1 (.bool false) t)) .mk
 | .tup []=>Y t
 | _=>False
theorem DS {d:Nat}{b w:Bool}{t:Tm}{X Y:Tm->Prop} {τ}:guardW (d,.bool b) w t X Y τ =
 splitB b (if w=true then X (upd d (.bool true) t) else Y (upd d (.bool true) t)) (if w=false then X (upd d (.bool false) t) else Y (upd d (.bool false) t)) .mk:=rfl
theorem DL {d:Nat}{w:Bool}{t:Tm}{X Y:Tm->Prop} {τ}:guardW (d,.tup []) w t X Y τ=Y t:=rfl
theorem FJ {d:Nat}{v:AV}:∀ {t:Tm},look t d=some v->upd d v t=t
 | (k,u)::t,h=>by
   simp only[look]at h;simp only[upd];split
   ·rename_i e;rw[if_pos e]at h;simp at h;rw[h]
   ·rename_i e;rw[if_neg e]at h;rw[FJ h]
theorem PZ {ops rest:List Oper} {dst op ty pos after}{j:Nat}{w:Bool}{n:Nat}{t:Tm}{H:List MB}{Q:St->Prop} {τ} :
  WO P cf mu ops (⟨dst,op,ty,pos,after,some (j,w)⟩::rest) ⟨n,t,H⟩ Q τ =
  bindW (guardV ops j t) (fun q=>guardW q w t
   (fun t=>bindW (evOp P cf mu (St.ev ⟨n,t,H⟩) H ⟨dst,op,ty,pos,after,none⟩) (fun q=>WO P cf mu ops rest (St.put ⟨n,t,q.2⟩ dst q.1) Q .mk) .mk)
   (fun t=>WO P cf mu ops rest (St.put ⟨n,t,H⟩ dst (.tup [])) Q .mk) .mk) .mk:=by
 have hop:∀ g,evOp P cf mu (St.ev ⟨n,t,H⟩) H ⟨dst,op,ty,pos,after,g⟩=evOp P cf mu (St.ev ⟨n,t,H⟩) H ⟨dst,op,ty,pos,after,none⟩:=fun g=>rfl
 have run:evWanted ops ⟨n,t,H⟩ ⟨dst,op,ty,pos,after,some (j,w)⟩=some true->WO P cf mu ops (⟨dst,op,ty,pos,after,some (j,w)⟩::rest) ⟨n,t,H⟩ Q τ =
   bindW (evOp P cf mu (St.ev ⟨n,t,H⟩) H ⟨dst,op,ty,pos,after,none⟩) (fun q=>WO P cf mu ops rest (St.put ⟨n,t,q.2⟩ dst q.1) Q .mk) .mk:=by
  intro h;simp only[WO,evOps,evOne,h,hop];cases evOp P cf mu (St.ev ⟨n,t,H⟩) H ⟨dst,op,ty,pos,after,none⟩<;>simp[bindW]
 have skip:evWanted ops ⟨n,t,H⟩ ⟨dst,op,ty,pos,after,some (j,w)⟩=some false->WO P cf mu ops (⟨dst,op,ty,pos,after,some (j,w)⟩::rest) ⟨n,t,H⟩ Q τ =
   WO P cf mu ops rest (St.put ⟨n,t,H⟩ dst (.tup [])) Q .mk:=by
  intro h;simp only[WO,evOps,evOne,h]
 have stuck:evWanted ops ⟨n,t,H⟩ ⟨dst,op,ty,pos,after,some (j,w)⟩=none->WO P cf mu ops (⟨dst,op,ty,pos,after,some (j,w)⟩::rest) ⟨n,t,H⟩ Q τ=False:=by
  intro h;simp only[WO,evOps,evOne,h,Ds]
 unfold guardV;cases hq0:ops[j]? with
 | none=>
   rw[skip (by simp[evWanted,hq0])];simp only[A4,DL]
 | some q=>
   simp only[];cases hd:q.dst with
   | none=>
     rw[skip (by simp[evWanted,hq0,hd])];simp only[A4,DL]
   | some d=>
     simp only[];cases htd:look t d with
     | none=>
       rw[stuck (by simp[evWanted,hq0,hd,htd])];simp[bindW]
     | some u=>
       simp only[Option.map_some,A4];have st:(∀ b,u≠.bool b)->u≠.tup []->evWanted ops ⟨n,t,H⟩ ⟨dst,op,ty,pos,after,some (j,w)⟩=none:=by
        intro h1 h2;simp only[evWanted,hq0,hd,htd];cases u with
        | bool b=>exact absurd rfl (h1 b)
        | tup l=>cases l with
          | nil=>exact absurd rfl h2
          | cons a l=>rfl
        | _=>rfl
       have ss:=FJ htd;cases u with
       | bool b=>
         rw[DS];cases b<;>cases w
         ·rw[run (by simp[evWanted,hq0,hd,htd]),CI,if_pos rfl,ss]
         ·rw[skip (by simp[evWanted,hq0,hd,htd])];simp[CI,ss]
         ·rw[skip (by simp[evWanted,hq0,hd,htd])];simp[CU,ss]
         ·rw[run (by simp[evWanted,hq0,hd,htd]),CU,if_pos rfl,ss]
       | tup l=>
         cases l with
         | nil=>rw[skip (by simp[evWanted,hq0,hd,htd])];rfl
         | cons a l=>rw[stuck (st (by simp) (by simp))];rfl
       | _=>rw[stuck (st (by simp) (by simp))];rfl
def W (P:Program) (cf:CF) (it:It) (mu:List Nat) (m:Cfg) (c:Code) (s:St) (Q:EX->St->Prop) (_t:Tag2 c Q):Prop:=
 bindW (evCode P cf it mu m c s) (fun q=>Q q.1 q.2) .mk
def thenK (k:St->Prop) (Q:EX->St->Prop):EX->St->Prop
 | .norm,s=>k s
 | e,s=>Q e s
theorem LY {k:St->Prop}{Q:EX->St->Prop}{s:St}:thenK k Q .norm s=k s:=rfl
theorem LZ {k:St->Prop}{Q:EX->St->Prop}{s:St}{i:Nat}:thenK k Q (.exit i) s=Q (.exit i) s:=rfl
theorem M7 {k:St->Prop}{Q:EX->St->Prop}{s:St}:thenK k Q .ret s=Q .ret s:=rfl
def blockK (l:List Nat) (id:Nat) (Q:EX->St->Prop):EX->St->Prop
 | .exit i,s=>if i=id then Q .norm (dropSt l s) else Q (.exit i) s
 | .norm,s=>Q .norm (dropSt l s)
 | .ret,s=>Q .ret s
theorem LH {l:List Nat}{id:Nat}{Q:EX->St->Prop}{s:St}:blockK l id Q .norm s=Q .norm (dropSt l s):=rfl
theorem MJ {l:List Nat}{id:Nat}{Q:EX->St->Prop}{s:St}:blockK l id Q .ret s=Q .ret s:=rfl
theorem LI {l:List Nat}{id i:Nat}{Q:EX->St->Prop}{s:St}:blockK l id Q (.exit i) s=if i=id then Q .norm (dropSt l s) else Q (.exit i) s:=rfl
theorem TQ {a b:Code}{s:St}{Q:EX->St->Prop} {τ}:W P cf it mu m (.seq a b) s Q τ=W P cf it mu m a s (thenK (fun s=>W P cf it mu m b s Q .mk) Q) .mk:=by
 simp only[W,evCode];cases evCode P cf it mu m a s with
 | none=>simp[bindW]
 | some q=>
   obtain⟨e,s'⟩:=q;cases e<;>simp[bindW,thenK]
theorem PY {id:Nat}{os:List Oper}{s:St}{Q:EX->St->Prop} {τ}:W P cf it mu m (.region id ⟨os⟩ false) s Q τ=WO P cf mu os os s (fun s=>Q .norm (dropSt (m.dd id) (actL (m.ra id) s))) .mk:=by
 simp only[W,WO,evCode,evRegion,false_eq_true,if_false,F1]
theorem RU {s:St}{Q:EX->St->Prop} {τ}:W P cf it mu m .skip s Q τ=Q .norm s:=by simp[W,evCode,bindW]
theorem QZ {l:Nat}{s:St}{Q:EX->St->Prop} {τ}:W P cf it mu m (.label l) s Q τ=Q .norm s:=by simp[W,evCode,bindW]
theorem TR {s:St}{Q:EX->St->Prop} {τ}:W P cf it mu m .ret s Q τ=Q .ret s:=by simp[W,evCode,bindW]
theorem RW {id:Nat}{s:St}{Q:EX->St->Prop} {τ}:W P cf it mu m (.exit id) s Q τ=Q (.exit id) s:=by simp[W,evCode,bindW]
theorem QY {b:Code}{s:St}{Q:EX->St->Prop} {τ}:W P cf it mu m (.scope b) s Q τ=W P cf it mu m b s Q .mk:=by simp[W,evCode]
theorem BM {id:Nat}{b:Code}{s:St}{Q:EX->St->Prop} {τ}:W P cf it mu m (.block id b) s Q τ=W P cf it mu m b s (blockK (m.bd id) id Q) .mk:=by
 simp only[W,evCode];cases evCode P cf it mu m b s with
 | none=>simp[bindW]
 | some q=>
   obtain⟨e,s'⟩:=q;cases e with
   | exit i=>by_cases h:i=id<;>simp[bindW,blockK,h]
   | norm=>simp[bindW,blockK]
   | ret=>simp[bindW,blockK]
theorem RY {d:Nat}{x y:Code}{n:Nat}{t:Tm}{H:List MB}{Q:EX->St->Prop} {τ}:W P cf it mu m (.cond (.tmp d) x y) ⟨n,t,H⟩ Q τ =
  bindW (look t d) (fun v=>bindW (asB v) (fun b=>splitB b (W P cf it mu m x ⟨n,upd d (.bool true) t,H⟩ Q .mk) (W P cf it mu m y ⟨n,upd d (.bool false) t,H⟩ Q .mk) .mk) .mk) .mk:=by
 cases hv:look t d with
 | none=>
   have hg:lookD t d=.top:=by unfold lookD;rw[hv]
   simp only[W,evCode,St.ev,hg,Ds]
 | some v=>
   have hg:lookD t d=v:=by unfold lookD;rw[hv]
   have ss:=FJ hv;simp only[A4];cases v with
   | bool b=>cases b<;>simp only[W,evCode,St.ev,hg,LK,A4,CU,CI,ss]
   | _=>simp only[W,evCode,St.ev,hg,asB,Ds]
def roundK (k:St->Prop) (Q:EX->St->Prop):EX->St->Prop
 | .norm,s=>k s
 | e,s=>Q e s
theorem KR {k:St->Prop}{Q:EX->St->Prop}{s:St}:roundK k Q .norm s=k s:=rfl
theorem KS {k:St->Prop}{Q:EX->St->Prop}{s:St}{i:Nat}:roundK k Q (.exit i) s=Q (.exit i) s:=rfl
theorem Lk {k:St->Prop}{Q:EX->St->Prop}{s:St}:roundK k Q .ret s=Q .ret s:=rfl
theorem RV {b:Code}{Q:EX->St->Prop} (J:Nat->St->Prop)
  (h:∀ n s,J n s->W P cf itL mu m b (prep (m.lp (loopId b)) s) (roundK (fun s'=>∃ n',n'<n/\J n' s') Q) .mk) :
  ∀(n:Nat) (s:St),J n s->W P cf itL mu m (.loop b) s Q .mk:=by
 intro n
 induction n using Nat.strongRecOn with
 | ind n ih=>
   intro s hs;obtain⟨⟨e,s'⟩,h1,h2⟩:=h n s hs;simp only[W,evCode];cases e with
   | norm=>
     obtain⟨n',hn,hj⟩:=h2;obtain⟨q,q1,q2⟩:=ih n' hn s' hj;refine⟨q,?_,q2⟩;rw[Lz];simp only[evCode]at q1;simp only[h1];exact q1
   | exit id=>exact⟨_,by rw[Lz];simp only[h1],h2⟩
   | ret=>exact⟨_,by rw[Lz];simp only[h1],h2⟩
theorem Cw {σ:Type}{b:Code}{Q:EX->St->Prop}{M:Msk} (hM:m.lp (loopId b)=M) (T:σ->St) (Inv:σ->Prop) (μ:σ->Nat) (x0:σ)
  (h:∀ x,Inv x->W P cf itL mu m b (T x) (roundK (fun s'=>∃ x',Inv x'/\μ x'<μ x/\prep M s' = T x') Q) .mk)
  (h0:Inv x0) (s:St) (hs:prep M s=T x0):W P cf itL mu m (.loop b) s Q .mk:=by
 subst hM;refine RV (fun n s=>∃ x,Inv x/\μ x=n/\prep (m.lp (loopId b)) s=T x) ?_ (μ x0) s ⟨x0,h0,rfl,hs⟩;rintro n s ⟨x,h1,rfl,h3⟩;rw[h3];obtain⟨q,q1,q2⟩:=h x h1;refine⟨q,q1,?_⟩;obtain⟨e,s'⟩:=q;cases e with
 | norm=>
   obtain⟨x',a,b,c⟩:=q2;exact⟨_,b,x',a,rfl,c⟩
 | exit i=>exact q2
 | ret=>exact q2
theorem Af {b:Code}{Q:EX->St->Prop}{M:Msk} (hM:m.lp (loopId b)=M) (N:Nat) (T:Nat->St) (Inv:Nat->Prop)
  (h:∀ i,i<N->Inv i->W P cf itL mu m b (T i) (roundK (fun s'=>Inv (i+1)/\prep M s' = T (i+1)) Q) .mk)
  (hN:Inv N->W P cf itL mu m b (T N) (roundK (fun _=>False) Q) .mk)
  (h0:Inv 0) (s:St) (hs:prep M s=T 0):W P cf itL mu m (.loop b) s Q .mk:=by
 refine Cw hM T (fun i=>i<=N/\Inv i) (fun i=>N-i) 0 ?_ ⟨Nat.zero_le _,h0⟩ s hs;rintro i ⟨h1,h2⟩;by_cases hi:i<N
 ·obtain⟨q,q1,q2⟩:=h i hi h2;refine⟨q,q1,?_⟩;obtain⟨e,s'⟩:=q;cases e with
  | norm=>exact⟨i+1,⟨hi,q2.1⟩,by show N-(i+1)<N-i;omega,q2.2⟩
  | exit i=>exact q2
  | ret=>exact q2
 ·obtain rfl:i=N:=by omega
  obtain⟨q,q1,q2⟩:=hN h2;refine⟨q,q1,?_⟩;obtain⟨e,s'⟩:=q;cases e with
  | norm=>exact q2.elim
  | exit i=>exact q2
  | ret=>exact q2
def endK (P:Program) (pol:Pol) (f:Nat) (H1:List MB) (rs:List ResultVar) (r:AV×List MB):EX->St->Prop
 | .exit _,_=>False
 | _,s=>bindW (evResults P s rs) (fun vs=>retPol pol f H1 (packRes vs) s.h=some r) .mk
theorem Nb {f H1 rs r s}:endK P pol f H1 rs r .norm s=bindW (evResults P s rs) (fun vs=>retPol pol f H1 (packRes vs) s.h=some r) .mk:=rfl
theorem O7 {f H1 rs r s}:endK P pol f H1 rs r .ret s=bindW (evResults P s rs) (fun vs=>retPol pol f H1 (packRes vs) s.h=some r) .mk:=rfl
theorem JB {f:Nat}{args:List AV}{H:List MB}{r:AV×List MB}{fn:Func}{c:Code} (he:pol.ext f=none) (hf:P.funcs[f]?=some fn) (hc:fn.body=some c)
  (hn:(fn.name == "runtime.NumGoroutine")=false)
  (h:bindW (frzArgs pol f 0 args H) (fun q=>W P cf it (pol.muts f) (cfgOf pol f q.2.length) c ⟨q.1.length+(fn.ntmps-q.1.length),initT 0 q.1 [],q.2⟩ (endK P pol f q.2 fn.results.toList r) .mk) .mk) :
  evBody P pol cf it f args H=some r:=by
 obtain⟨⟨as,H1⟩,hz,⟨e,s⟩,hev,hk⟩:=h;unfold evBody;simp only[he,hf,hc];rw[if_neg (by simpa using hn)];simp only[hz,hev];cases e with
 | exit id=>exact hk.elim
 | norm=>
   obtain⟨vs,h1,h2⟩:=hk;simp only[h1];exact h2
 | ret=>
   obtain⟨vs,h1,h2⟩:=hk;simp only[h1];exact h2
end Go.Ev
namespace Go.Ev
open Go.RowKit
variable {P:Program}{pol:Pol}{cf:CF}{it:It}{mu:List Nat}{m:Cfg}
mutual
theorem AV.beq_refl:∀ a:AV,AV.beq a a=true
 | .top | .nilp | .nilf | .nili | .nilm=>rfl
 | .int k n=>by simp[AV.beq]
 | .bool x=>by simp[AV.beq]
 | .str s=>by simp[AV.beq]
 | .sl t xs=>by simp[AV.beq,AV.beqL_refl xs]
 | .pt xs=>by simp[AV.beq,AV.beqL_refl xs]
 | .rf a b c d=>by simp[AV.beq]
 | .ms a b c d e=>by simp[AV.beq]
 | .mpr a=>by simp[AV.beq]
 | .yld a=>by simp[AV.beq]
 | .clo f xs=>by simp[AV.beq,AV.beqL_refl xs]
 | .clb f xs=>by simp[AV.beq,AV.beqL_refl xs]
 | .agg xs=>by simp[AV.beq,AV.beqL_refl xs]
 | .tup xs=>by simp[AV.beq,AV.beqL_refl xs]
 | .ifc t x=>by simp[AV.beq,AV.beq_refl x]
 | .psl a b c=>by simp[AV.beq]
theorem AV.beqL_refl:∀ l:List AV,AV.beqL l l=true
 | []=>rfl
 | x::xs=>by simp[AV.beqL,AV.beq_refl x,AV.beqL_refl xs]
end
theorem MB.beqE_refl:∀ l:List (AV×AV),MB.beqE l l=true
 | []=>rfl
 | (a,b)::l=>by simp[MB.beqE,AV.beq_refl,MB.beqE_refl l]
theorem MB.beqT_refl:∀ l:List (Nat×AV),MB.beqT l l=true
 | []=>rfl
 | (a,b)::l=>by simp[MB.beqT,AV.beq_refl,MB.beqT_refl l]
theorem Bq (c:Code×Code):codeEq c c=true:=by simp[codeEq]
theorem MB.beq_refl (b:MB):MB.beq b b=true:=by
 cases b<;>simp[MB.beq,AV.beqL_refl,MB.beqE_refl,MB.beqT_refl,Bq]
theorem Aj:∀ H:List MB,heapEq H H=true
 | []=>rfl
 | b::H=>by simp[heapEq,MB.beq_refl,Aj H]
theorem sameAt_refl (id:Nat) (H:List MB):sameAt id H H=true:=by
 unfold sameAt;cases H[id]?<;>simp[MB.beq_refl]
def dOk (os:List Oper) (_t:Tag os):Prop:=drawOk ⟨os⟩=true
def fpL (i:Nat) (o:Option FP):List (Nat×FP):=
 match o with
 | some p=>[(i,p)]
 | none=>[]
theorem O0 (i:Nat) (p:FP):fpL i (some p)=[(i,p)]:=rfl
theorem O4 (i:Nat):fpL i none=[]:=rfl
def WD (P:Program) (cf:CF) (mu:List Nat) (ops:List Oper) (i:Nat) (rest:List Oper) (s:St) (acc:List (Nat×FP)) (Q:List (Nat×FP)->St->Prop) (_t:Tag2 rest Q):Prop:=
 bindW (evOpsD P cf mu ops i rest s) (fun q=>Q (acc++q.1) q.2) .mk
theorem Rb {ops:List Oper}{i:Nat}{s:St} {acc}{Q:List (Nat×FP)->St->Prop} {τ}:WD P cf mu ops i [] s acc Q τ=Q acc s:=by simp[WD,evOpsD,bindW]
theorem Qd {ops rest:List Oper}{i:Nat} {dst op ty pos after}{n:Nat}{t:Tm}{H:List MB} {acc}{Q:List (Nat×FP)->St->Prop} {τ} :
  WD P cf mu ops i (⟨dst,op,ty,pos,after,none⟩::rest) ⟨n,t,H⟩ acc Q τ =
   bindW (evOp P cf mu (St.ev ⟨n,t,H⟩) H ⟨dst,op,ty,pos,after,none⟩) (fun q=>WD P cf mu ops (i+1) rest (St.put ⟨n,t,q.2⟩ dst q.1)
    (acc++fpL i (footprint mu (St.ev ⟨n,t,H⟩) ⟨dst,op,ty,pos,after,none⟩ H q.2)) Q .mk) .mk:=by
 simp only[WD,evOpsD,evOne,evWanted];cases h:evOp P cf mu (St.ev ⟨n,t,H⟩) H ⟨dst,op,ty,pos,after,none⟩ with
 | none=>simp[bindW]
 | some q=>
   obtain⟨v,H'⟩:=q;have hp:∀(d:Option Tmp),(St.put ⟨n,t,H'⟩ d v).h=H':=fun d=>by cases d<;>rfl
   cases h2:evOpsD P cf mu ops (i+1) rest (St.put ⟨n,t,H'⟩ dst v) with
   | none=>simp[bindW,h2]
   | some r=>
     obtain⟨l,s⟩:=r;simp only[A4,h2,if_true,hp];cases footprint mu (St.ev ⟨n,t,H⟩) ⟨dst,op,ty,pos,after,none⟩ H H'<;>simp[fpL]
theorem Pa {ops rest:List Oper}{i:Nat} {dst op ty pos after}{j:Nat}{w:Bool}{n:Nat}{t:Tm}{H:List MB} {acc}{Q:List (Nat×FP)->St->Prop} {τ} :
  WD P cf mu ops i (⟨dst,op,ty,pos,after,some (j,w)⟩::rest) ⟨n,t,H⟩ acc Q τ =
  bindW (guardV ops j t) (fun q=>guardW q w t
   (fun t=>bindW (evOp P cf mu (St.ev ⟨n,t,H⟩) H ⟨dst,op,ty,pos,after,none⟩) (fun q=>WD P cf mu ops (i+1) rest (St.put ⟨n,t,q.2⟩ dst q.1) (acc++fpL i (footprint mu (St.ev ⟨n,t,H⟩) ⟨dst,op,ty,pos,after,none⟩ H q.2)) Q .mk) .mk)
   (fun t=>WD P cf mu ops (i+1) rest (St.put ⟨n,t,H⟩ dst (.tup [])) acc Q .mk) .mk) .mk:=by
 have hop:∀ g,evOp P cf mu (St.ev ⟨n,t,H⟩) H ⟨dst,op,ty,pos,after,g⟩=evOp P cf mu (St.ev ⟨n,t,H⟩) H ⟨dst,op,ty,pos,after,none⟩:=fun g=>rfl
 have run:evWanted ops ⟨n,t,H⟩ ⟨dst,op,ty,pos,after,some (j,w)⟩=some true->WD P cf mu ops i (⟨dst,op,ty,pos,after,some (j,w)⟩::rest) ⟨n,t,H⟩ acc Q τ =
   bindW (evOp P cf mu (St.ev ⟨n,t,H⟩) H ⟨dst,op,ty,pos,after,none⟩) (fun q=>WD P cf mu ops (i+1) rest (St.put ⟨n,t,q.2⟩ dst q.1) (acc++fpL i (footprint mu (St.ev ⟨n,t,H⟩) ⟨dst,op,ty,pos,after,none⟩ H q.2)) Q .mk) .mk:=by
  intro h;have hfp:∀ g H',footprint mu (St.ev ⟨n,t,H⟩) ⟨dst,op,ty,pos,after,g⟩ H H' = footprint mu (St.ev ⟨n,t,H⟩) ⟨dst,op,ty,pos,after,none⟩ H H':=fun g H'=>rfl;simp only[WD,evOpsD,evOne,h,hop,hfp];cases evOp P cf mu (St.ev ⟨n,t,H⟩) H ⟨dst,op,ty,pos,after,none⟩ with
  | none=>simp[bindW]
  | some q=>
    obtain⟨v,H'⟩:=q;have hp:∀(d:Option Tmp),(St.put ⟨n,t,H'⟩ d v).h=H':=fun d=>by cases d<;>rfl
    cases h2:evOpsD P cf mu ops (i+1) rest (St.put ⟨n,t,H'⟩ dst v) with
    | none=>simp[bindW,h2]
    | some r=>
      obtain⟨l,s⟩:=r;simp only[A4,h2,if_true,hp];cases footprint mu (St.ev ⟨n,t,H⟩) ⟨dst,op,ty,pos,after,none⟩ H H'<;>simp[fpL]
 have skip:evWanted ops ⟨n,t,H⟩ ⟨dst,op,ty,pos,after,some (j,w)⟩=some false->WD P cf mu ops i (⟨dst,op,ty,pos,after,some (j,w)⟩::rest) ⟨n,t,H⟩ acc Q τ =
   WD P cf mu ops (i+1) rest (St.put ⟨n,t,H⟩ dst (.tup [])) acc Q .mk:=by
  intro h;simp only[WD,evOpsD,evOne,h];cases h2:evOpsD P cf mu ops (i+1) rest (St.put ⟨n,t,H⟩ dst (.tup [])) with
  | none=>simp[bindW]
  | some r=>
    obtain⟨l,s⟩:=r;simp[bindW]
 have stuck:evWanted ops ⟨n,t,H⟩ ⟨dst,op,ty,pos,after,some (j,w)⟩=none->WD P cf mu ops i (⟨dst,op,ty,pos,after,some (j,w)⟩::rest) ⟨n,t,H⟩ acc Q τ=False:=by
  intro h;simp only[WD,evOpsD,evOne,h,Ds]
 unfold guardV;cases hq0:ops[j]? with
 | none=>
   rw[skip (by simp[evWanted,hq0])];simp only[A4,DL]
 | some q=>
   simp only[];cases hd:q.dst with
   | none=>
     rw[skip (by simp[evWanted,hq0,hd])];simp only[A4,DL]
   | some d=>
     simp only[];cases htd:look t d with
     | none=>
       rw[stuck (by simp[evWanted,hq0,hd,htd])];simp[bindW]
     | some u=>
       simp only[Option.map_some,A4];have st:(∀ b,u≠.bool b)->u≠.tup []->evWanted ops ⟨n,t,H⟩ ⟨dst,op,ty,pos,after,some (j,w)⟩=none:=by
        intro h1 h2;simp only[evWanted,hq0,hd,htd];cases u with
        | bool b=>exact absurd rfl (h1 b)
        | tup l=>cases l with
          | nil=>exact absurd rfl h2
          | cons a l=>rfl
        | _=>rfl
       have ss:=FJ htd;cases u with
       | bool b=>
         rw[DS];cases b<;>cases w
         ·rw[run (by simp[evWanted,hq0,hd,htd]),CI,if_pos rfl,ss]
         ·rw[skip (by simp[evWanted,hq0,hd,htd])];simp[CI,ss]
         ·rw[skip (by simp[evWanted,hq0,hd,htd])];simp[CU,ss]
         ·rw[run (by simp[evWanted,hq0,hd,htd]),CU,if_pos rfl,ss]
       | tup l=>
         cases l with
         | nil=>rw[skip (by simp[evWanted,hq0,hd,htd])];rfl
         | cons a l=>rw[stuck (st (by simp) (by simp))];rfl
       | _=>rw[stuck (st (by simp) (by simp))];rfl
def WI (P:Program) (cf:CF) (mu:List Nat) (ops:List Oper) (ord:List Nat) (s:St) (acc:List (Nat×FP)) (Q:List (Nat×FP)->St->Prop) (_t:Tag2 ord Q):Prop:=
 bindW (evOpsI P cf mu ops ord s) (fun q=>Q (acc++q.1) q.2) .mk
theorem Ra {ops:List Oper}{s:St} {acc}{Q:List (Nat×FP)->St->Prop} {τ}:WI P cf mu ops [] s acc Q τ=Q acc s:=by simp[WI,evOpsI,bindW]
theorem Qc {ops:List Oper}{i:Nat}{rest:List Nat}{s:St} {acc}{Q:List (Nat×FP)->St->Prop} {τ} :
  WI P cf mu ops (i::rest) s acc Q τ=bindW ops[i]? (fun o=>WD P cf mu ops i [o] s acc (fun acc' s'=>WI P cf mu ops rest s' acc' Q .mk) .mk) .mk:=by
 simp only[WI,WD,evOpsI,evOpsD];cases ops[i]? with
 | none=>simp[bindW]
 | some o=>
   simp only[A4];cases evWanted ops s o with
   | none=>simp[bindW]
   | some b=>
     simp only[];cases evOne P cf mu ops o s with
     | none=>simp[bindW]
     | some s1=>
       simp only[A4];cases evOpsI P cf mu ops rest s1 with
       | none=>simp[bindW]
       | some q=>
         obtain⟨l,s2⟩:=q;simp only[A4];cases (if b=true then footprint mu s.ev o s.h s1.h else none)<;>simp
def altW (o:Option (Nat×Nat×List Nat)) (X:Prop) (Y:Nat->Nat->List Nat->Prop) (_t:Tag2 X Y):Prop:=
 match o with
 | none=>X
 | some (p,q,ord)=>Y p q ord
theorem Nq {X:Prop}{Y:Nat->Nat->List Nat->Prop} {τ}:altW none X Y τ=X:=rfl
theorem Np {p q:Nat}{ord:List Nat}{X:Prop}{Y:Nat->Nat->List Nat->Prop} {τ}:altW (some (p,q,ord)) X Y τ=Y p q ord:=rfl
theorem Kn (H:List MB):heapEq H H=true:=by
 induction H with
 | nil=>rfl
 | cons x H ih=>simp[heapEq,MB.beq_refl,ih]
theorem IV:∀ t:Tm,tmEq t t=true
 | []=>rfl
 | (k,v)::t=>by simp[tmEq,AV.beq_refl,IV t]
theorem St.beq_refl (s:St):St.beq s s=true:=by simp[St.beq,IV,Kn]
theorem RX {id:Nat}{os:List Oper}{s:St}{Q:EX->St->Prop} {τ}:W P cf it mu m (.region id ⟨os⟩ true) s Q τ =
  altW (m.al id) (dOk os .mk/\WD P cf mu os 0 os s [] (fun l s=>pairsOk ⟨os⟩ l=true/\Q .norm (dropSt (m.dd id) (actL (m.ra id) s))) .mk)
   (fun p q ord=>dOk os .mk/\altO ⟨os⟩ p q ord=true/\WD P cf mu os 0 os s [] (fun l s1=>pairsX ⟨os⟩ p q l=true /\
     WI P cf mu os ord s [] (fun l2 s2=>pairsX ⟨os⟩ q p l2=true/\St.beq s1 s2=true/\Q .norm (dropSt (m.dd id) (actL (m.ra id) s1))) .mk) .mk) .mk:=by
 simp only[W,WD,WI,evCode,evRegion,if_true,F1,dOk];cases m.al id with
 | none=>
   simp only[altW];cases evOpsD P cf mu os 0 os s with
   | none=>simp[bindW]
   | some q=>
     obtain⟨l,s'⟩:=q;simp only[A4,nil_append];by_cases h1:drawOk ⟨os⟩=true<;>by_cases h2:pairsOk ⟨os⟩ l=true<;>simp[h1,h2,bindW]
 | some a=>
   obtain⟨p,q,ord⟩:=a;simp only[altW];cases evOpsD P cf mu os 0 os s with
   | none=>simp[bindW]
   | some x=>
     obtain⟨l,s1⟩:=x;simp only[A4,nil_append];cases evOpsI P cf mu os ord s with
     | none=>simp[bindW]
     | some y=>
       obtain⟨l2,s2⟩:=y;simp only[A4,nil_append];by_cases h1:drawOk ⟨os⟩=true<;>by_cases h2:altO ⟨os⟩ p q ord=true<;>by_cases h3:pairsX ⟨os⟩ p q l=true<;>by_cases h4:pairsX ⟨os⟩ q p l2=true<;>by_cases h5:St.beq s1 s2=true<;>simp[h1,h2,h3,h4,h5,bindW]
theorem RP {f n:Nat}:(cfgOf pol f n).al=pol.alts f:=rfl
mutual
def AV.plain:AV->Bool
 | .rf _ _ _ _ | .ms _ _ _ _ _ | .mpr _ | .yld _=>false
 | .sl t xs=>!t&&AV.plainL xs
 | .pt xs=>AV.plainL xs
 | .clo _ xs=>AV.plainL xs
 | .clb _ xs=>AV.plainL xs
 | .agg xs=>AV.plainL xs
 | .tup xs=>AV.plainL xs
 | .ifc _ x=>AV.plain x
 | _=>true
def AV.plainL:List AV->Bool
 | []=>true
 | x::xs=>AV.plain x&&AV.plainL xs
end
theorem Ep (l:List AV):AV.plainL l=true↔∀ x∈l,AV.plain x=true:=by
 induction l with
 | nil=>simp[AV.plainL]
 | cons a l ih=>simp[AV.plainL,ih]
mutual
theorem EV (jump:List AV->List MB->Option (List AV×List MB)):∀(a:AV) (H:List MB),AV.plain a=true->fzA jump a H=some (a,H)
 | .sl t xs,H,h=>by
   simp only[AV.plain,and_eq_true,Bool.not_eq_true']at h;obtain⟨rfl,h2⟩:=h;simp only[fzA,Be jump xs H h2]
 | .pt xs,H,h=>by simp only[AV.plain]at h;simp only[fzA,Be jump xs H h]
 | .agg xs,H,h=>by simp only[AV.plain]at h;simp only[fzA,Be jump xs H h]
 | .tup xs,H,h=>by simp only[AV.plain]at h;simp only[fzA,Be jump xs H h]
 | .rf _ _ _ _,H,h=>by simp[AV.plain]at h
 | .ms _ _ _ _ _,H,h=>by simp[AV.plain]at h
 | .mpr _,H,h=>by simp[AV.plain]at h
 | .yld _,H,h=>by simp[AV.plain]at h
 | .top,H,h=>rfl
 | .int _ _,H,h=>rfl
 | .bool _,H,h=>rfl
 | .str _,H,h=>rfl
 | .nilp,H,h=>rfl
 | .nilf,H,h=>rfl
 | .nili,H,h=>rfl
 | .nilm,H,h=>rfl
 | .clo _ _,H,h=>rfl
 | .clb _ _,H,h=>rfl
 | .ifc _ _,H,h=>rfl
 | .psl _ _ _,H,h=>rfl
theorem Be (jump:List AV->List MB->Option (List AV×List MB)):∀(l:List AV) (H:List MB),AV.plainL l=true->fzL jump l H=some (l,H)
 | [],H,_=>rfl
 | x::xs,H,h=>by
   simp only[AV.plainL,and_eq_true]at h;simp only[fzL,EV jump x H h.1,Be jump xs H h.2]
end
mutual
theorem AJ (n:Nat):∀(a:AV),AV.plain a=true->AV.under n a=true
 | .sl t xs,h=>by
   simp only[AV.plain,and_eq_true]at h;simp only[AV.under,AE n xs h.2]
 | .pt xs,h=>by simp only[AV.plain]at h;simp only[AV.under,AE n xs h]
 | .agg xs,h=>by simp only[AV.plain]at h;simp only[AV.under,AE n xs h]
 | .tup xs,h=>by simp only[AV.plain]at h;simp only[AV.under,AE n xs h]
 | .clo _ xs,h=>by simp only[AV.plain]at h;simp only[AV.under,AE n xs h]
 | .clb _ xs,h=>by simp only[AV.plain]at h;simp only[AV.under,AE n xs h]
 | .ifc _ x,h=>by simp only[AV.plain]at h;simp only[AV.under,AJ n x h]
 | .rf _ _ _ _,h=>by simp[AV.plain]at h
 | .ms _ _ _ _ _,h=>by simp[AV.plain]at h
 | .mpr _,h=>by simp[AV.plain]at h
 | .yld _,h=>by simp[AV.plain]at h
 | .psl _ _ _,h=>rfl
 | .top,h=>rfl
 | .int _ _,h=>rfl
 | .bool _,h=>rfl
 | .str _,h=>rfl
 | .nilp,h=>rfl
 | .nilf,h=>rfl
 | .nili,h=>rfl
 | .nilm,h=>rfl
theorem AE (n:Nat):∀(l:List AV),AV.plainL l=true->AV.underL n l=true
 | [],_=>rfl
 | x::xs,h=>by
   simp only[AV.plainL,and_eq_true]at h;simp only[AV.underL,AJ n x h.1,AE n xs h.2,Bool.and_self]
end
theorem Au {a:AV} (H:List MB) (h:AV.plain a=true):fz a H=some (a,H):=EV _ a H h
theorem GD (H K:List MB):keptOk 0 [] K=true:=by cases K<;>rfl
theorem MH {f:Nat}{args:List AV}{r:AV} (hp:pol.pure f=true) (ha:AV.plainL args=true) (hr:AV.plain r=true)
  (h:evBody P pol (call P pol) itL f args []=some (r,[])) (H:List MB):call P pol f args H=some (r,H):=by
 have hf:∀(l:List AV) (i:Nat),AV.plainL l=true->frzArgs pol f i l H=some (l,H):=by
  intro l
  induction l with
  | nil=>intro i _;rfl
  | cons x l ih=>
    intro i h;simp only[AV.plainL,and_eq_true]at h;simp only[frzArgs,Au H h.1,ih (i+1) h.2];split<;>simp_all
 rw[BO];unfold evStep;rw[if_pos hp];simp only[hf args 0 ha,AE 0 args ha,if_true,h,rebase,AJ 0 r hr]
theorem Jh {d:Nat}{b:Bool}{t:Tm}{X Y:Tm->Prop} {τ}:guardW (d,.bool b) true t X Y τ=splitB b (X (upd d (.bool true) t)) (Y (upd d (.bool false) t)) .mk:=by
 simp[DS]
theorem Ji {d:Nat}{b:Bool}{t:Tm}{X Y:Tm->Prop} {τ}:guardW (d,.bool b) false t X Y τ=splitB b (Y (upd d (.bool true) t)) (X (upd d (.bool false) t)) .mk:=by
 simp[DS]
theorem OM {n:Nat}{t:Tm}{H:List MB}{i:Nat}{v:AV}:St.put ⟨n,t,H⟩ (some i) v=⟨n,if i<n then ins i v t else t,H⟩:=rfl
theorem ON {n:Nat}{t:Tm}{H:List MB}{v:AV}:St.put ⟨n,t,H⟩ none v=⟨n,t,H⟩:=rfl
theorem RI {n:Nat}{t:Tm}{H:List MB}{i:Nat}:St.ev ⟨n,t,H⟩ (.tmp i)=lookD t i:=rfl
theorem RJ {n:Nat}{t:Tm}{H:List MB}{v:Value}:St.ev ⟨n,t,H⟩ (.const v)=ofK v:=rfl
theorem QS {n:Nat}{t:Tm}{H:List MB}{f:Nat}:St.ev ⟨n,t,H⟩ (.func f)=.clo f []:=rfl
theorem P5 {k:IntKind}{n:Int}:ofK (.int k n)=.int k n:=rfl
theorem OX {b:Bool}:ofK (.bool b)=.bool b:=rfl
theorem P3 {b:ByteArray}:ofK (.string b)=.str b:=rfl
theorem P6 {l:List Value}:ofK (.agg ⟨l⟩)=if l.all Value.oneCell' = true then .agg (l.map ofC) else .top:=rfl
theorem P9 {k:IntKind}{n:Int}:ofC (.int k n)=.int k n:=rfl
theorem OZ {b:Bool}:ofC (.bool b)=.bool b:=rfl
theorem P7 {b:ByteArray}:ofC (.string b)=.str b:=rfl
theorem P8:ofC (.slice none 0 0)=.sl true []:=rfl
theorem OY:ofC (.pointer none)=.nilp:=rfl
theorem P2 {k:IntKind}{n:Int}:Value.oneCell' (.int k n)=true:=rfl
theorem OW {b:Bool}:Value.oneCell' (.bool b)=true:=rfl
theorem Pz {b:ByteArray}:Value.oneCell' (.string b)=true:=rfl
theorem P1:Value.oneCell' (.slice none 0 0)=true:=rfl
theorem OV:Value.oneCell' (.pointer none)=true:=rfl
theorem P4:ofK (.slice none 0 0)=.sl true []:=rfl
theorem CM {f:Nat} (hb:∀ i,pol.byref f i=false) (H:List MB):∀(l:List AV) (i:Nat),AV.plainL l=true->frzArgs pol f i l H=some (l,H)
 | [],_,_=>rfl
 | x::l,i,h=>by
   simp only[AV.plainL,and_eq_true]at h;simp only[frzArgs,hb,false_eq_true,if_false,Au H h.1,CM hb H l (i+1) h.2]
def retK (P:Program) (rs:List ResultVar) (r:AV):EX->St->Prop
 | .exit _,_=>False
 | _,s=>bindW (evResults P s rs) (fun vs=>∃ H',fz (packRes vs) s.h=some (r,H')) .mk
theorem NE {rs r s}:retK P rs r .norm s=bindW (evResults P s rs) (fun vs=>∃ H',fz (packRes vs) s.h=some (r,H')) .mk:=rfl
theorem OE {rs r s}:retK P rs r .ret s=bindW (evResults P s rs) (fun vs=>∃ H',fz (packRes vs) s.h=some (r,H')) .mk:=rfl
theorem fzEq {r r':AV}{H:List MB} (h:AV.plain r=true) (e:r=r'):(∃ H',fz r H=some (r',H')):=⟨H,e ▸ Au H h⟩
theorem AT {f:Nat}{args:List AV}{r:AV}{fn:Func}{c:Code} (hf:P.funcs[f]?=some fn) (hc:fn.body=some c) (hn:(fn.name == "runtime.NumGoroutine")=false)
  (hp:pol.pure f=true) (he:pol.ext f=none) (hk:pol.keep f=false) (ho:pol.own f=false) (hb:∀ i,pol.byref f i=false)
  (ha:AV.plainL args=true) (hr:AV.plain r=true)
  (h:W P (call P pol) itL (pol.muts f) (cfgOf pol f 0) c ⟨args.length+(fn.ntmps-args.length),initT 0 args [],[]⟩ (retK P fn.results.toList r) .mk) (H:List MB) :
  call P pol f args H=some (r,H):=by
 refine MH hp ha hr ?_ H;obtain⟨⟨e,s⟩,hev,hk2⟩:=h;have fin:∀ {vs:List AV}{H':List MB},fz (packRes vs) s.h=some (r,H')->retPol pol f [] (packRes vs) s.h=some (r,[]):=by
  intro vs H' hz;unfold retPol;simp only[hk,ho,false_eq_true,if_false,hz,length_nil,AJ 0 r hr,GD [] H',and_self,if_true,List.take_zero]
 unfold evBody;simp only[he,hf,hc];rw[if_neg (by simpa using hn)];simp only[CM hb [] args 0 ha,length_nil,hev];cases e with
 | exit id=>exact hk2.elim
 | norm=>
   obtain⟨vs,h1,H',h2⟩:=hk2;simp only[h1];exact fin h2
 | ret=>
   obtain⟨vs,h1,H',h2⟩:=hk2;simp only[h1];exact fin h2
theorem A0 {m:Msk}{n k:Nat}{t t':Tm}{h h':List MB} (hz:m.acts=[]) (hg:m.gc=some n) (hc:keepT m.k t=t') (he:h.take n=h') (ht:AV.underL n (t'.map (·.2))=true) (hh:h'.all (MB.under n)=true) :
  prep m ⟨k,t,h⟩=⟨k,t',h'⟩:=by
 subst he;unfold prep prepG;simp only[hz,actL,hg,hc,ht,hh,and_self,if_true]
theorem Ol {d:Nat}{v:AV}{t:Tm}:look ((d,v)::t) d=some v:=by simp[look]
theorem NS {d:Nat}{v:AV}{t:Tm}:lookD ((d,v)::t) d=v:=by simp[lookD,look]
theorem Lw {k d:Nat}{v:AV}{t:Tm}:lookD ((k,v)::t) d=if k=d then v else lookD t d:=by
 by_cases h:k=d<;>simp[lookD,look,h]
theorem NR {d:Nat}:lookD [] d=.top:=rfl
theorem QE {d:Nat}{u v:AV}{t:Tm}:ins d v ((d,u)::t)=(d,v)::t:=by simp[ins]
theorem Pb {d:Nat}{u v:AV}{t:Tm}:upd d v ((d,u)::t)=(d,v)::t:=by simp[upd]
theorem OI {d:Nat}{u:AV}{t:Tm}:rem1 d ((d,u)::t)=t:=by simp[rem1]
theorem Nd {n:Nat}{l:List Nat}{t:Tm}{H:List MB}:dropSt l ⟨n,t,H⟩=⟨n,dropT l t,H⟩:=rfl
theorem RN {f n:Nat}:(cfgOf pol f n).dd=pol.dead f:=rfl
theorem RM {f n:Nat}:(cfgOf pol f n).ra=pol.racts f:=rfl
theorem PV {s:St}:actL [] s=s:=rfl
theorem Nr {a:SA}{l:List SA}{s:St}:actL (a::l) s=actL l (act1 s a):=rfl
theorem Nw {d:Nat}{u v:AV}{t:Tm}:updT d v ((d,u)::t)=(d,v)::t:=by simp[updT]
theorem RO {f n:Nat}:(cfgOf pol f n).bd=pol.bdead f:=rfl
theorem Qa {b:Bool}{x y:Code}{s:St}{Q:EX->St->Prop} {τ}:W P cf it mu m (.cond (.const (.bool b)) x y) s Q τ=if b=true then W P cf it mu m x s Q .mk else W P cf it mu m y s Q .mk:=by
 have e:s.ev (.const (.bool b))=.bool b:=rfl;simp only[W,evCode,e];cases b<;>simp
end Go.Ev
namespace Go.Ev
open Go.RowKit Go.IntWalk
section
variable {a b:Int}
theorem Sy (h:a<b):decide (a<b)=true:=decide_eq_true h
theorem Sz (h:b<=a):decide (a<b)=false:=decide_eq_false (by omega)
theorem S0 (h:a<=b):decide (a<=b)=true:=decide_eq_true h
theorem S1 (h:b<a):decide (a<=b)=false:=decide_eq_false (by omega)
theorem S2 (h:b<a):decide (a > b)=true:=decide_eq_true h
theorem S3 (h:a<=b):decide (a > b)=false:=decide_eq_false (by omega)
theorem S4 (h:b<=a):decide (a >= b)=true:=decide_eq_true h
theorem S5 (h:a<b):decide (a >= b)=false:=decide_eq_false (by omega)
theorem TM (h:a=b):(a==b)=true:=by simp[h]
theorem TN (h:a≠b):(a==b)=false:=by simp[h]
theorem TK (h:a≠b):(a != b)=true:=by simp[h]
theorem TL (h:a=b):(a != b)=false:=by simp[h]
theorem lt_T (h:a<b):(a<b)=True:=by simp[h]
theorem le_T (h:a<=b):(a<=b)=True:=by simp[h]
end
theorem SR {a b:Nat} (h:a<=b):(a<=b)=True:=by simp[h]
theorem ST {a b:Nat} (h:b<a):(a<=b)=False:=by simp;omega
theorem AD {a:Nat} (h:a<=4611686018427387904):IntKind.i64.wrap ((a:Int)+1)=((a+1:Nat):Int):=by rw[i64_in];rfl;omega
theorem AC {a:Nat} (h:a<=4611686018427387904):IntKind.i64.wrap (((a+1:Nat):Int)-1)=(a:Int):=by rw[i64_in]<;>omega
theorem AB {a:Nat} (h:0<a/\a<=4611686018427387904):IntKind.i64.wrap ((a:Int)-1)=((a-1:Nat):Int):=by rw[i64_in]<;>omega
theorem AA {a b:Nat} (h:b<=a/\a<=4611686018427387904):IntKind.i64.wrap ((a:Int)-(b:Int))=((a-b:Nat):Int):=by rw[i64_in]<;>omega
section
variable {α:Type} (a0 a1 a2 a3 a4 a5 a6 a7 a8 a9 a10 a11 a12 a13 a14 a15:α) (t:List α) (n:Nat)
theorem L5:(a0::a1::a2::a3::a4::a5::a6::a7::a8::a9::a10::a11::a12::a13::a14::a15::t)[n+16]?=t[n]?:=by simp
end
section
variable {α:Type} (a0 a1 a2 a3:α) (t:List α) (n:Nat)
theorem SH (v:α):(a0::a1::a2::a3::t).set (n+4) v=a0::a1::a2::a3::t.set n v:=rfl
theorem NW:(a0::a1::a2::a3::t)[n+4]?=t[n]?:=by simp
theorem SM (a v:α):(a::t).set 0 v=v::t:=rfl
theorem SL (a b v:α):(a::b::t).set 1 v=a::v::t:=rfl
theorem SK (a b c v:α):(a::b::c::t).set 2 v=a::b::v::t:=rfl
theorem SJ (a b c d v:α):(a::b::c::d::t).set 3 v=a::b::c::v::t:=rfl
end
variable {P:Program}{pol:Pol}
theorem AP {f:Nat}{args as:List AV}{H H1:List MB}{r:AV×List MB}{fn:Func}{c:Code} (hf:P.funcs[f]?=some fn) (hc:fn.body=some c) (hn:(fn.name == "runtime.NumGoroutine")=false)
  (hp:pol.pure f=false) (he:pol.ext f=none) (ha:frzArgs pol f 0 args H=some (as,H1))
  (h:W P (call P pol) itL (pol.muts f) (cfgOf pol f H1.length) c ⟨as.length+(fn.ntmps-as.length),initT 0 as [],H1⟩ (endK P pol f H1 fn.results.toList r) .mk) (hy:f≠yldF:=by decide) :
  call P pol f args H=some r:=by
 rw[BO];unfold evStep;rw[if_neg (by simp[hp]),if_neg hy];refine JB he hf hc hn ?_;rw[ha,A4];exact h
theorem Bg {f:Nat}{H1 H H':List MB}{r:AV} (hk:pol.keep f=false) (ho:pol.own f=false) (hr:AV.plain r=true) (h:keptOk H1.length H1 H=true) (hh:H.take H1.length=H') :
  retPol pol f H1 r H=some (r,H'):=by
 unfold retPol;simp only[hk,ho,false_eq_true,if_false,Au H hr,AJ _ r hr,h,and_self,if_true,hh]
theorem Jm {n id k tot off len z:Nat}{H H':List MB}{els ys:List AV} (hr:getRow H id=some (k,els,z)) (h1:els.length=tot) (h2:off+len<=tot)
  (hp:fzL (fzJ n) ((els.drop off).take len) (mark H id (off+len))=some (ys,H')) :
  fzA (fzJ (n+1)) (.ms id k tot off len) H=some (.sl false ys,H'):=by
 simp only[fzA,hr,h1,h2,and_self,if_true,fzJ,hp]
theorem Jn {j:List AV->List MB->Option (List AV×List MB)}{xs:List AV}{H:List MB}:fzA j (.agg xs) H=match fzL j xs H with
 | some (ys,H')=>some (.agg ys,H')
 | none=>none:=rfl
theorem EW {j:List AV->List MB->Option (List AV×List MB)}{k:IntKind}{n:Int}{H:List MB}:fzA j (.int k n) H=some (.int k n,H):=rfl
end Go.Ev
namespace Go.Ev
open Go.RowKit Go.IntWalk
variable {P:Program}{pol:Pol}
theorem AK (n:Nat) (xs ys:List AV):AV.underL n (xs++ys)=(AV.underL n xs&&AV.underL n ys):=by
 induction xs with
 | nil=>simp[AV.underL]
 | cons a xs ih=>simp[AV.underL,ih,Bool.and_assoc]
theorem AX {α:Type} (a:α):(some a).toList=[a]:=rfl
def retE (P:Program) (rs:List ResultVar) (Post:AV->Prop):EX->St->Prop
 | .exit _,_=>False
 | _,s=>bindW (evResults P s rs) (fun vs=>∃ r,Post r/\∃ H',fz (packRes vs) s.h=some (r,H')) .mk
theorem Ae {rs}{Post:AV->Prop} {s}:retE P rs Post .norm s=bindW (evResults P s rs) (fun vs=>∃ r,Post r/\∃ H',fz (packRes vs) s.h=some (r,H')) .mk:=rfl
theorem Al {rs}{Post:AV->Prop} {s}:retE P rs Post .ret s=bindW (evResults P s rs) (fun vs=>∃ r,Post r/\∃ H',fz (packRes vs) s.h=some (r,H')) .mk:=rfl
end Go.Ev
namespace Go.Ev
open Go.RowKit Go.IntWalk
variable {P:Program}{pol:Pol}
theorem CL {f:Nat}{args:List AV}{Post:AV->Prop}{fn:Func}{c:Code} (hf:P.funcs[f]?=some fn) (hc:fn.body=some c) (hn:(fn.name == "runtime.NumGoroutine")=false)
  (hp:pol.pure f=true) (he:pol.ext f=none) (hk:pol.keep f=false) (ho:pol.own f=false) (hb:∀ i,pol.byref f i=false)
  (ha:AV.plainL args=true) (hr:∀ r,Post r->AV.plain r=true)
  (h:W P (call P pol) itL (pol.muts f) (cfgOf pol f 0) c ⟨args.length+(fn.ntmps-args.length),initT 0 args [],[]⟩ (retE P fn.results.toList Post) .mk) :
  ∃ r,Post r/\∀ H,call P pol f args H=some (r,H):=by
 obtain⟨⟨e,s⟩,h1,h2⟩:=h;have key:∃ r,Post r/\retK P fn.results.toList r e s:=by
  cases e with
  | exit id=>exact h2.elim
  | norm=>
    obtain⟨vs,a,r,b,c⟩:=h2;exact⟨r,b,vs,a,c⟩
  | ret=>
    obtain⟨vs,a,r,b,c⟩:=h2;exact⟨r,b,vs,a,c⟩
 obtain⟨r,hP,hret⟩:=key;exact⟨r,hP,AT hf hc hn hp he hk ho hb ha (hr r hP) ⟨(e,s),h1,hret⟩⟩
end Go.Ev
namespace Go.Ev
open Go.RowKit Go.IntWalk
variable {P:Program}{pol:Pol}
theorem AQ (x:MB) (l l':List MB):sameAt 0 (x::l) (x::l')=true:=by simp[sameAt,MB.beq_refl]
theorem AU (x y x':MB) (l l':List MB):sameAt 1 (x::y::l) (x'::y::l')=true:=by simp[sameAt,MB.beq_refl]
theorem AO (x y z x' y':MB) (l l':List MB):sameAt 2 (x::y::z::l) (x'::y'::z::l')=true:=by simp[sameAt,MB.beq_refl]
theorem AR (x y z u x' y' z':MB) (l l':List MB):sameAt 3 (x::y::z::u::l) (x'::y'::z'::u::l')=true:=by simp[sameAt,MB.beq_refl]
theorem AS (x y z u v x' y' z' u':MB) (l l':List MB):sameAt 4 (x::y::z::u::v::l) (x'::y'::z'::u'::v::l')=true:=by simp[sameAt,MB.beq_refl]
theorem AY {n b:Nat} (h:n<=4000000000) (hb:b<=8000):roomFor n b=true:=by
 have:n*b<=4000000000*8000:=Nat.mul_le_mul h hb;simp[roomFor];omega
theorem take_len {α:Type}{l:List α}{n:Nat} (h:l.length=n):l.take n=l:=take_of_length_le (Nat.le_of_eq h)
theorem Dl {α β:Type}{f:α->β}{l:List α}{n:Nat} (h:l.length=n):(l.map f).take n=l.map f:=take_of_length_le (by simp[h])
theorem Cl {n id k tot z:Nat}{H:List MB}{els:List AV} (hr:getRow H id=some (k,els,z)) (h1:els.length=tot) (hp:AV.plainL els=true) :
  fzA (fzJ (n+1)) (.ms id k tot 0 tot) H=some (.sl false els,mark H id tot):=by
 have:=Jm (n:=n) (off:=0) (len:=tot) (ys:=els) (H':=mark H id (0+tot)) hr h1 (by omega) (by rw[drop_zero,take_len h1];exact Be _ _ _ hp)
 rwa [Nat.zero_add]at this
theorem Dq {id k tot z:Nat}{H:List MB}{els:List AV} (hr:getRow H id=some (k,els,z)) (h1:els.length=tot) (hp:AV.plainL els=true) :
 fz (.ms id k tot 0 tot) H=some (.sl false els,mark H id tot):=Cl hr h1 hp
theorem Oy {n id k tot len z:Nat}{H:List MB}{els:List AV} (hr:getRow H id=some (k,els,z)) (h1:els.length=tot) (h2:len<=tot) (hp:AV.plainL (els.take len)=true) :
  fzA (fzJ (n+1)) (.ms id k tot 0 len) H=some (.sl false (els.take len),mark H id len):=by
 have:=Jm (n:=n) (off:=0) (len:=len) (ys:=els.take len) (H':=mark H id (0+len)) hr h1 (by omega) (by rw[drop_zero];exact Be _ _ _ hp)
 rwa [Nat.zero_add]at this
theorem HV {id tot i j k z:Nat}{H:List MB}{els:List AV}{x:AV} (hr:getRow H id=some (k,els,z)) (h1:els.length=tot) (hx:els[i]?=some x) (hp:AV.plainL (x.cells.drop j)=true) :
  fz (.rf id tot i j) H=some (.pt (x.cells.drop j),mark H id (i+1)):=by
 simp only[fz,fzA,hr,h1,if_true,hx,fzJ,Be _ _ _ hp]
theorem Ac {m:Msk}{n k:Nat}{t:Tm}{h:List MB}{s:St} (hz:m.acts=[]) (hg:m.gc=some n) (ht:AV.underL n ((keepT m.k t).map (·.2))=true) (hh:(h.take n).all (MB.under n)=true)
  (he:(⟨k,keepT m.k t,h.take n⟩:St)=s):prep m ⟨k,t,h⟩=s:=by
 subst he;exact A0 hz hg rfl rfl ht hh
theorem EU {j:List AV->List MB->Option (List AV×List MB)}{xs:List AV}{H:List MB}:fzA j (.tup xs) H=match fzL j xs H with
 | some (ys,H')=>some (.tup ys,H')
 | none=>none:=rfl
theorem L4 {α:Type} (n:Nat) (l:List α):(l.take (n+1)).head?=l.head?:=by cases l<;>simp
variable {P:Program}{pol:Pol}
def endE (P:Program) (pol:Pol) (f:Nat) (H1:List MB) (rs:List ResultVar) (Post:AV×List MB->Prop):EX->St->Prop
 | .exit _,_=>False
 | _,s=>bindW (evResults P s rs) (fun vs=>∃ r,Post r/\retPol pol f H1 (packRes vs) s.h=some r) .mk
theorem Nc {f H1 rs}{Post:AV×List MB->Prop} {s}:endE P pol f H1 rs Post .norm s=bindW (evResults P s rs) (fun vs=>∃ r,Post r/\retPol pol f H1 (packRes vs) s.h=some r) .mk:=rfl
theorem O8 {f H1 rs}{Post:AV×List MB->Prop} {s}:endE P pol f H1 rs Post .ret s=bindW (evResults P s rs) (fun vs=>∃ r,Post r/\retPol pol f H1 (packRes vs) s.h=some r) .mk:=rfl
theorem Hs {f:Nat}{args l:List AV}{H H1:List MB}{Post:AV×List MB->Prop}{fn:Func}{c:Code} (hf:P.funcs[f]?=some fn) (hc:fn.body=some c) (hn:(fn.name == "runtime.NumGoroutine")=false)
  (hp:pol.pure f=false) (he:pol.ext f=none) (ha:frzArgs pol f 0 args H=some (l,H1))
  (h:W P (call P pol) itL (pol.muts f) (cfgOf pol f H1.length) c ⟨l.length+(fn.ntmps-l.length),initT 0 l [],H1⟩ (endE P pol f H1 fn.results.toList Post) .mk) (hy:f≠yldF:=by decide) :
  ∃ r,Post r/\call P pol f args H=some r:=by
 obtain⟨⟨e,s⟩,h1,h2⟩:=h;have key:∃ r,Post r/\endK P pol f H1 fn.results.toList r e s:=by
  cases e with
  | exit id=>exact h2.elim
  | norm=>
    obtain⟨vs,a,r,b,c⟩:=h2;exact⟨r,b,vs,a,c⟩
  | ret=>
    obtain⟨vs,a,r,b,c⟩:=h2;exact⟨r,b,vs,a,c⟩
 obtain⟨r,hP,hret⟩:=key;exact⟨r,hP,AP hf hc hn hp he ha ⟨(e,s),h1,hret⟩ hy⟩
def mixOk (pol:Pol) (f:Nat):Nat->List AV->Bool
 | _,[]=>true
 | i,x::l=>(pol.byref f i||AV.plain x)&&mixOk pol f (i+1) l
theorem AL {f:Nat} (H:List MB):∀(l:List AV) (i:Nat),mixOk pol f i l=true->frzArgs pol f i l H=some (l,H)
 | [],_,_=>rfl
 | x::l,i,h=>by
   simp only[mixOk,and_eq_true,Bool.or_eq_true]at h;have h2:=AL H l (i+1) h.2;cases hb:pol.byref f i with
   | true=>simp[frzArgs,hb,h2]
   | false=>
     have:AV.plain x=true:=by simpa [hb] using h.1
     simp[frzArgs,hb,h2,Au H this]
end Go.Ev
namespace Go.Ev
open Go.RowKit Go.IntWalk
variable {P:Program}{pol:Pol}
inductive KeepL (j:List AV->List MB->Option (List AV×List MB)):List AV->List AV->Prop where
 | nil:KeepL j [] []
 | cons {x y:AV}{a b:List AV} (h:∀ H,fzA j x H=some (y,H)) (t:KeepL j a b):KeepL j (x::a) (y::b)
theorem KeepL.fz {j:List AV->List MB->Option (List AV×List MB)}{a b:List AV} (h:KeepL j a b) (H:List MB):fzL j a H=some (b,H):=by
 induction h with
 | nil=>rfl
 | cons h _ ih=>simp only[fzL,h,ih]
theorem KeepL.append {j:List AV->List MB->Option (List AV×List MB)}{a b c d:List AV} (h:KeepL j a b) (h2:KeepL j c d):KeepL j (a++c) (b++d):=by
 induction h with
 | nil=>exact h2
 | cons h _ ih=>exact .cons h ih
theorem KeepL.plain {j:List AV->List MB->Option (List AV×List MB)}:∀ {a:List AV},AV.plainL a=true->KeepL j a a
 | [],_=>.nil
 | x::a,h=>by
   simp only[AV.plainL,and_eq_true]at h;exact .cons (fun H=>EV j x H h.1) (KeepL.plain h.2)
theorem KeepL.one {j:List AV->List MB->Option (List AV×List MB)}{x y:AV} (h:∀ H,fzA j x H=some (y,H)):KeepL j [x] [y]:=.cons h .nil
theorem KeepL.len {j:List AV->List MB->Option (List AV×List MB)}{a b:List AV} (h:KeepL j a b):b.length=a.length:=by
 induction h with
 | nil=>rfl
 | cons _ _ ih=>simp[ih]
theorem Ni {f k n:Nat}{args els:List AV}{fn:Func}{c:Code} (hf:P.funcs[f]?=some fn) (hc:fn.body=some c) (hn:(fn.name == "runtime.NumGoroutine")=false)
  (hp:pol.pure f=true) (he:pol.ext f=none) (hb:∀ i,pol.byref f i=false) (ha:AV.plainL args=true) (hels:AV.plainL els=true)
  (h:W P (call P pol) itL (pol.muts f) (cfgOf pol f 0) c ⟨args.length+(fn.ntmps-args.length),initT 0 args [],[]⟩ (endK P pol f [] fn.results.toList (.ms 0 k n 0 n,[.row k els 0])) .mk) (H:List MB) :
  call P pol f args H=some (.ms H.length k n 0 n,H++[.row k els 0]):=by
 rw[BO];unfold evStep;rw[if_pos hp];simp only[CM hb H args 0 ha,AE 0 args ha,if_true];have hbody:evBody P pol (call P pol) itL f args []=some (.ms 0 k n 0 n,[.row k els 0]):=by
  refine JB he hf hc hn ?_;rw[CM hb [] args 0 ha,A4];exact h
 rw[hbody];simp only[rebase,AE 0 els hels,if_true]
theorem Lm {f id k n z:Nat}{els xs:List AV}{H H':List MB} (hk:pol.keep f=false) (ho:pol.own f=true) (hr:getRow H id=some (k,els,z)) (hl:els.length=n) (hz:fzs els H=some (xs,H')) (hr':getRow H' id=some (k,els,0))
  (hx:AV.plainL xs=true) (hxl:xs.length=n):retPol pol f [] (.ms id k n 0 n) H=some (.ms 0 k n 0 n,[.row k xs 0]):=by
 unfold retPol;simp only[hk,ho,false_eq_true,if_false,if_true,hr];rw[if_pos ⟨Nat.zero_le _,hl,trivial,by omega⟩];have ht:(els.drop 0).take n=els:=by rw[drop_zero];exact take_of_length_le (Nat.le_of_eq hl)
 simp only[ht,hz,hr',length_nil];rw[if_pos ⟨AE 0 xs hx,GD [] H',hxl,Nat.zero_le _⟩];simp
theorem Bp {H:List MB}{sT xT e k by_ id n z:Nat}{ze x:AV}{els ys:List AV} (he:tyElem P sT=some e) (hxT:tyNotInt P xT=true) (hk:tySz P e=some k) (hby:tyBytes P e=some by_) (hze:tyZero P e=some ze) (hzl:ze.cells.length=k) (hk0:0<k)
  (hs:srcElems P H e x=some ys) (hw:ys.all (fun y=>decide (y.cells.length=k)&&y.cells.all AV.ok)=true) (hr:getRow H id=some (k,els,z)) (hl:els.length=n) (hz:z<=n) (hroom:roomFor (n+ys.length) by_=true) :
  evAppend P H sT xT (.ms id k n 0 n) x=some (.ms id k (n+ys.length) 0 (n+ys.length),H.set id (.row k (els++ys) z)):=by
 unfold evAppend;simp only[he,hxT,hk,hby,hze,hs];rw[if_pos ⟨hw,hk0,hzl⟩];simp only[hr];rw[if_pos ⟨hl,trivial,trivial,by omega⟩];have hid:=(List.getElem?_eq_some_iff.1 (By hr)).1;cases ys with
 | nil=>
   simp only[length_nil,Nat.add_zero,List.append_nil];have:H.set id (.row k els z)=H:=by
    apply List.ext_getElem?;intro q;by_cases e:id=q
    ·subst e;rw[List.getElem?_set_self hid,By hr]
    ·rw[List.getElem?_set_ne e]
   rw[this]
 | cons y ys=>
   simp only[];rw[if_pos ⟨by omega,hroom⟩,if_neg (by simp)];have ht:els.take (0+n)=els:=take_of_length_le (by omega);rw[ht];simp
end Go.Ev
