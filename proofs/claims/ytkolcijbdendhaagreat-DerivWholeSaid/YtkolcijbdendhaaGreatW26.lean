/- Rules, continued: loops over a function. -/
import Derived.Test.YtkolcijbdendhaaGreatW08
set_option linter.unusedVariables false
set_option linter.unusedSimpArgs false
namespace Go.Ev
open Go.RowKit
variable {P:Program}{pol:Pol}
def findRF:Code->List (Code×Code)
 | .seq a b=>findRF a++findRF b
 | .cond _ a b=>findRF a++findRF b
 | .block _ b=>findRF b
 | .loop b=>findRF b
 | .scope b=>findRF b
 | .rangeFunc _ _ a b=>[(a,b)]
 | _=>[]
def rfOf (P:Program) (f:Nat):Code×Code:=
 match P.funcs[f]? with
 | some fn=>match fn.body with
   | some c=>(findRF c).headD (.skip,.skip)
   | none=>(.skip,.skip)
 | none=>(.skip,.skip)
theorem MC {cf:CF}{it:It}{mu:List Nat}{m:Cfg}{g f h n:Nat}{cs:List AV}{ps:Array Tmp}{asg b:Code}{t:Tm}{H H':List MB}{r:AV}{e:EX}{s':St}{Q:EX->St->Prop} {τ} (mk:Option (List Nat)) (hf:m.rf=some f) (hg:look t g=some (.clo h cs)) (hk:(m.lp (loopId b)).k=mk)
  (hne:h≠yldF) (hc:cf h (.yld H.length::cs) (H++[.lp .ready f n (keepT mk t) ps.toList (asg,b)])=some (r,H')) (he:endLp H' H.length ⟨n,t,H⟩=some (e,s')) (hq:Q e s'):W P cf it mu m (.rangeFunc (.tmp g) ps asg b) ⟨n,t,H⟩ Q τ:=by
 refine⟨(e,s'),?_,hq⟩;have hv:St.ev ⟨n,t,H⟩ (.tmp g)=.clo h cs:=by
  show lookD t g=_;unfold lookD;rw[hg]
 simp only[evCode,hf,hv,hk,cfn,if_neg hne,hc,he]
def rdK (P:Program) (pol:Pol) (N id:Nat) (f n:Nat) (t:Tm) (ps:List Nat) (c:Code×Code) (cb:Code) (r:AV×List MB):EX->St->Prop
 | .norm,s1=>bindW (beginRd id s1 f n t ps c) (fun s2=>W P (call P pol) itL (pol.muts f) ⟨none,mskOf (pol.mask f) (pol.gc f) (pol.acts f) N,pol.dead f,pol.racts f,pol.bdead f,pol.alts f⟩ cb s2 (fun e s'=>endRd id e s' f n t ps c=some r) .mk) .mk
 | _,_=>False
theorem KD {N id f n:Nat}{t:Tm}{ps:List Nat}{c:Code×Code}{cb:Code}{r:AV×List MB}{s1:St}:rdK P pol N id f n t ps c cb r .norm s1=bindW (beginRd id s1 f n t ps c) (fun s2=>W P (call P pol) itL (pol.muts f) ⟨none,mskOf (pol.mask f) (pol.gc f) (pol.acts f) N,pol.dead f,pol.racts f,pol.bdead f,pol.alts f⟩ cb s2 (fun e s'=>endRd id e s' f n t ps c=some r) .mk) .mk:=rfl
theorem HW {id f n:Nat}{as:List AV}{H:List MB}{t:Tm}{ps:List Nat}{c:Code×Code}{s:St}{r:AV×List MB} (hp:pol.pure yldF=false) (hm:H[id]?=some (.lp .ready f n t ps c)) (hb:bindPs ps as ⟨n,t,H⟩=some s)
  {ca cb:Code} (ha:c.1=ca) (hcb:c.2=cb) (h:W P (call P pol) itL (pol.muts f) ⟨none,mskOf (pol.mask f) (pol.gc f) (pol.acts f) H.length,pol.dead f,pol.racts f,pol.bdead f,pol.alts f⟩ ca s (rdK P pol H.length id f n t ps c cb r) .mk):call P pol yldF (.yld id::as) H=some r:=by
 subst ha;subst hcb;obtain⟨⟨e,s1⟩,h1,h2⟩:=h;cases e with
 | exit i=>exact h2.elim
 | ret=>exact h2.elim
 | norm=>
   obtain⟨s2,g1,⟨e',s'⟩,g2,g3⟩:=h2;rw[BP];unfold evStep;rw[if_neg (by simp[hp]),if_pos rfl];unfold evYield;simp only[hm,hb];have e1:({ cfgOf pol f H.length with rf:=none }:Cfg)=⟨none,mskOf (pol.mask f) (pol.gc f) (pol.acts f) H.length,pol.dead f,pol.racts f,pol.bdead f,pol.alts f⟩:=rfl;simp only[e1,h1,g1,g2];exact g3
theorem HJ {id f n:Nat}{t:Tm}{ps:List Nat}{c:Code×Code}{s:St} (h:s.h[id]?=some (.lp .busy f n t ps c)):endRd id .norm s f n t ps c=some (.bool true,s.h.set id (.lp .ready f n t ps c)):=by
 unfold endRd;simp only[h,MB.beqT_refl,Cn,and_self,if_true]
theorem HK {id f n:Nat}{t:Tm}{ps:List Nat}{c:Code×Code}{s:St}{H:List MB} (h:H[id]?=some (.lp .ready f n t ps c)):endLp H id s=some (.norm,⟨s.n,s.t,H.set id (.lp .over f n [] ps c)⟩):=by
 unfold endLp;simp only[h]
end Go.Ev
