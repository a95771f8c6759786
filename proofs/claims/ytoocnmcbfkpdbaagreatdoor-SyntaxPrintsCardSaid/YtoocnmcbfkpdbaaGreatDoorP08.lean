/- Rules, continued: statements whose order is open; values that never change; whole calls. -/
import Derived.Test.YtoocnmcbfkpdbaaGreatDoorP07
import Derived.IntWalk
import Derived.Attr
set_option linter.unusedVariables false
set_option linter.unusedSimpArgs false
open Bool (and_eq_true false_eq_true)
namespace Go.Ev
variable [VarTab]
set_option linter.unusedSectionVars false
open Go.RowKit
variable {P:Program}{pol:Pol}{cf:CF}{it:It}{mu:List Nat}{m:Cfg}
mutual
theorem AV.beq_refl:∀ a:AV,AV.beq a a=true
 | .top | .nilp | .nilf | .nili | .nilm=>rfl
 | .int k n=>by simp[AV.beq]
 | .bool x=>by simp[AV.beq]
 | .str s=>by simp[AV.beq]
 | .sl t xs=>by simp[AV.beq,AV.beqL_refl xs]
 | .pt xs=>by simp[AV.beq,AV.beqL_refl xs]
 | .rf a b c d=>by simp[AV.beq]
 | .ms a b c d e=>by simp[AV.beq]
 | .mpr a=>by simp[AV.beq]
 | .yld a=>by simp[AV.beq]
 | .clo f xs=>by simp[AV.beq,AV.beqL_refl xs]
 | .clb f xs=>by simp[AV.beq,AV.beqL_refl xs]
 | .agg xs=>by simp[AV.beq,AV.beqL_refl xs]
 | .tup xs=>by simp[AV.beq,AV.beqL_refl xs]
 | .ifc t x=>by simp[AV.beq,AV.beq_refl x]
 | .psl a b c=>by simp[AV.beq]
theorem AV.beqL_refl:∀ l:List AV,AV.beqL l l=true
 | []=>rfl
 | x::xs=>by simp[AV.beqL,AV.beq_refl x,AV.beqL_refl xs]
end
theorem MB.beqE_refl:∀ l:List (AV×AV),MB.beqE l l=true
 | []=>rfl
 | (a,b)::l=>by simp[MB.beqE,AV.beq_refl,MB.beqE_refl l]
theorem MB.beqT_refl:∀ l:List (Nat×AV),MB.beqT l l=true
 | []=>rfl
 | (a,b)::l=>by simp[MB.beqT,AV.beq_refl,MB.beqT_refl l]
theorem Gw (c:Code×Code):codeEq c c=true:=by simp[codeEq]
theorem MB.beq_refl (b:MB):MB.beq b b=true:=by
 cases b<;>simp[MB.beq,AV.beqL_refl,MB.beqE_refl,MB.beqT_refl,Gw]
theorem Dr:∀ H:List MB,heapEq H H=true
 | []=>rfl
 | b::H=>by simp[heapEq,MB.beq_refl,Dr H]
theorem sameAt_refl (id:Nat) (H:List MB):sameAt id H H=true:=by
 unfold sameAt;cases H[id]?<;>simp[MB.beq_refl]
def dOk (os:List Oper) (_t:Tag os):Prop:=drawOk ⟨os⟩=true
def fpL (i:Nat) (o:Option FP):List (Nat×FP):=
 match o with
 | some p=>[(i,p)]
 | none=>[]
theorem Jc (i:Nat) (p:FP):fpL i (some p)=[(i,p)]:=rfl
theorem Jd (i:Nat):fpL i none=[]:=rfl
def WD (P:Program) (cf:CF) (mu:List Nat) (ops:List Oper) (i:Nat) (rest:List Oper) (s:St) (acc:List (Nat×FP)) (Q:List (Nat×FP)->St->Prop) (_t:Tag2 rest Q):Prop:=
 bindW (evOpsD P cf mu ops i rest s) (fun q=>Q (acc++q.1) q.2) .mk
theorem Ld {ops:List Oper}{i:Nat}{s:St} {acc}{Q:List (Nat×FP)->St->Prop} {τ}:WD P cf mu ops i [] s acc Q τ=Q acc s:=by simp[WD,evOpsD,bindW]
theorem Kx {ops rest:List Oper}{i:Nat} {dst op ty pos after}{n:Nat}{t:Tm}{H:List MB} {acc}{Q:List (Nat×FP)->St->Prop} {τ} :
  WD P cf mu ops i (⟨dst,op,ty,pos,after,none⟩::rest) ⟨n,t,H⟩ acc Q τ =
   bindW (evOp P cf mu (St.ev ⟨n,t,H⟩) H ⟨dst,op,ty,pos,after,none⟩) (fun q=>WD P cf mu ops (i+1) rest (St.put ⟨n,t,q.2⟩ dst q.1)
    (acc++fpL i (footprint mu (St.ev ⟨n,t,H⟩) ⟨dst,op,ty,pos,after,none⟩ H q.2)) Q .mk) .mk:=by
 simp only[WD,evOpsD,evOne,evWanted];cases h:evOp P cf mu (St.ev ⟨n,t,H⟩) H ⟨dst,op,ty,pos,after,none⟩ with
 | none=>simp[bindW]
 | some q=>
   obtain⟨v,H'⟩:=q;have hp:∀(d:Option Tmp),(St.put ⟨n,t,H'⟩ d v).h=H':=fun d=>by cases d<;>rfl
   cases h2:evOpsD P cf mu ops (i+1) rest (St.put ⟨n,t,H'⟩ dst v) with
   | none=>simp[bindW,h2]
   | some r=>
     obtain⟨l,s⟩:=r;simp only[Ac,h2,if_true,hp];cases footprint mu (St.ev ⟨n,t,H⟩) ⟨dst,op,ty,pos,after,none⟩ H H'<;>simp[fpL]
theorem J2 {ops rest:List Oper}{i:Nat} {dst op ty pos after}{j:Nat}{w:Bool}{n:Nat}{t:Tm}{H:List MB} {acc}{Q:List (Nat×FP)->St->Prop} {τ} :
  WD P cf mu ops i (⟨dst,op,ty,pos,after,some (j,w)⟩::rest) ⟨n,t,H⟩ acc Q τ =
  bindW (guardV ops j t) (fun q=>guardW q w t
   (fun t=>bindW (evOp P cf mu (St.ev ⟨n,t,H⟩) H ⟨dst,op,ty,pos,after,none⟩) (fun q=>WD P cf mu ops (i+1) rest (St.put ⟨n,t,q.2⟩ dst q.1) (acc++fpL i (footprint mu (St.ev ⟨n,t,H⟩) ⟨dst,op,ty,pos,after,none⟩ H q.2)) Q .mk) .mk)
   (fun t=>WD P cf mu ops (i+1) rest (St.put ⟨n,t,H⟩ dst (.tup [])) acc Q .mk) .mk) .mk:=by
 have hop:∀ g,evOp P cf mu (St.ev ⟨n,t,H⟩) H ⟨dst,op,ty,pos,after,g⟩=evOp P cf mu (St.ev ⟨n,t,H⟩) H ⟨dst,op,ty,pos,after,none⟩:=fun g=>rfl
 have run:evWanted ops ⟨n,t,H⟩ ⟨dst,op,ty,pos,after,some (j,w)⟩=some true->WD P cf mu ops i (⟨dst,op,ty,pos,after,some (j,w)⟩::rest) ⟨n,t,H⟩ acc Q τ =
   bindW (evOp P cf mu (St.ev ⟨n,t,H⟩) H ⟨dst,op,ty,pos,after,none⟩) (fun q=>WD P cf mu ops (i+1) rest (St.put ⟨n,t,q.2⟩ dst q.1) (acc++fpL i (footprint mu (St.ev ⟨n,t,H⟩) ⟨dst,op,ty,pos,after,none⟩ H q.2)) Q .mk) .mk:=by
  intro h;have hfp:∀ g H',footprint mu (St.ev ⟨n,t,H⟩) ⟨dst,op,ty,pos,after,g⟩ H H' = footprint mu (St.ev ⟨n,t,H⟩) ⟨dst,op,ty,pos,after,none⟩ H H':=fun g H'=>rfl;simp only[WD,evOpsD,evOne,h,hop,hfp];cases evOp P cf mu (St.ev ⟨n,t,H⟩) H ⟨dst,op,ty,pos,after,none⟩ with
  | none=>simp[bindW]
  | some q=>
    obtain⟨v,H'⟩:=q;have hp:∀(d:Option Tmp),(St.put ⟨n,t,H'⟩ d v).h=H':=fun d=>by cases d<;>rfl
    cases h2:evOpsD P cf mu ops (i+1) rest (St.put ⟨n,t,H'⟩ dst v) with
    | none=>simp[bindW,h2]
    | some r=>
      obtain⟨l,s⟩:=r;simp only[Ac,h2,if_true,hp];cases footprint mu (St.ev ⟨n,t,H⟩) ⟨dst,op,ty,pos,after,none⟩ H H'<;>simp[fpL]
 have skip:evWanted ops ⟨n,t,H⟩ ⟨dst,op,ty,pos,after,some (j,w)⟩=some false->WD P cf mu ops i (⟨dst,op,ty,pos,after,some (j,w)⟩::rest) ⟨n,t,H⟩ acc Q τ =
   WD P cf mu ops (i+1) rest (St.put ⟨n,t,H⟩ dst (.tup [])) acc Q .mk:=by
  intro h;simp only[WD,evOpsD,evOne,h];cases h2:evOpsD P cf mu ops (i+1) rest (St.put ⟨n,t,H⟩ dst (.tup [])) with
  | none=>simp[bindW]
  | some r=>
    obtain⟨l,s⟩:=r;simp[bindW]
 have stuck:evWanted ops ⟨n,t,H⟩ ⟨dst,op,ty,pos,after,some (j,w)⟩=none->WD P cf mu ops i (⟨dst,op,ty,pos,after,some (j,w)⟩::rest) ⟨n,t,H⟩ acc Q τ=False:=by
  intro h;simp only[WD,evOpsD,evOne,h,CQ]
 unfold guardV;cases hq0:ops[j]? with
 | none=>
   rw[skip (by simp[evWanted,hq0])];simp only[Ac,B1]
 | some q=>
   simp only[];cases hd:q.dst with
   | none=>
     rw[skip (by simp[evWanted,hq0,hd])];simp only[Ac,B1]
   | some d=>
     simp only[];cases htd:look t d with
     | none=>
       rw[stuck (by simp[evWanted,hq0,hd,htd])];simp[bindW]
     | some u=>
       simp only[Option.map_some,Ac];have st:(∀ b,u≠.bool b)->u≠.tup []->evWanted ops ⟨n,t,H⟩ ⟨dst,op,ty,pos,after,some (j,w)⟩=none:=by
        intro h1 h2;simp only[evWanted,hq0,hd,htd];cases u with
        | bool b=>exact absurd rfl (h1 b)
        | tup l=>cases l with
          | nil=>exact absurd rfl h2
          | cons a l=>rfl
        | _=>rfl
       have ss:=DN htd;cases u with
       | bool b=>
         rw[B5];cases b<;>cases w
         ·rw[run (by simp[evWanted,hq0,hd,htd]),Ba,if_pos rfl,ss]
         ·rw[skip (by simp[evWanted,hq0,hd,htd])];simp[Ba,ss]
         ·rw[skip (by simp[evWanted,hq0,hd,htd])];simp[Bc,ss]
         ·rw[run (by simp[evWanted,hq0,hd,htd]),Bc,if_pos rfl,ss]
       | tup l=>
         cases l with
         | nil=>rw[skip (by simp[evWanted,hq0,hd,htd])];rfl
         | cons a l=>rw[stuck (st (by simp) (by simp))];rfl
       | _=>rw[stuck (st (by simp) (by simp))];rfl
def WI (P:Program) (cf:CF) (mu:List Nat) (ops:List Oper) (ord:List Nat) (s:St) (acc:List (Nat×FP)) (Q:List (Nat×FP)->St->Prop) (_t:Tag2 ord Q):Prop:=
 bindW (evOpsI P cf mu ops ord s) (fun q=>Q (acc++q.1) q.2) .mk
theorem Lc {ops:List Oper}{s:St} {acc}{Q:List (Nat×FP)->St->Prop} {τ}:WI P cf mu ops [] s acc Q τ=Q acc s:=by simp[WI,evOpsI,bindW]
theorem Kw {ops:List Oper}{i:Nat}{rest:List Nat}{s:St} {acc}{Q:List (Nat×FP)->St->Prop} {τ} :
  WI P cf mu ops (i::rest) s acc Q τ=bindW ops[i]? (fun o=>WD P cf mu ops i [o] s acc (fun acc' s'=>WI P cf mu ops rest s' acc' Q .mk) .mk) .mk:=by
 simp only[WI,WD,evOpsI,evOpsD];cases ops[i]? with
 | none=>simp[bindW]
 | some o=>
   simp only[Ac];cases evWanted ops s o with
   | none=>simp[bindW]
   | some b=>
     simp only[];cases evOne P cf mu ops o s with
     | none=>simp[bindW]
     | some s1=>
       simp only[Ac];cases evOpsI P cf mu ops rest s1 with
       | none=>simp[bindW]
       | some q=>
         obtain⟨l,s2⟩:=q;simp only[Ac];cases (if b=true then footprint mu s.ev o s.h s1.h else none)<;>simp
def altW (o:Option (Nat×Nat×List Nat)) (X:Prop) (Y:Nat->Nat->List Nat->Prop) (_t:Tag2 X Y):Prop:=
 match o with
 | none=>X
 | some (p,q,ord)=>Y p q ord
theorem Im {X:Prop}{Y:Nat->Nat->List Nat->Prop} {τ}:altW none X Y τ=X:=rfl
theorem Il {p q:Nat}{ord:List Nat}{X:Prop}{Y:Nat->Nat->List Nat->Prop} {τ}:altW (some (p,q,ord)) X Y τ=Y p q ord:=rfl
theorem Gk (H:List MB):heapEq H H=true:=by
 induction H with
 | nil=>rfl
 | cons x H ih=>simp[heapEq,MB.beq_refl,ih]
theorem FO:∀ t:Tm,tmEq t t=true
 | []=>rfl
 | (k,v)::t=>by simp[tmEq,AV.beq_refl,FO t]
theorem St.beq_refl (s:St):St.beq s s=true:=by simp[St.beq,FO,Gk]
theorem AI {s:St}{b:Bool}:(St.beq s s||b)=true:=by rw[St.beq_refl];rfl
theorem LZ {id:Nat}{os:List Oper}{s:St}{Q:EX->St->Prop} {τ}:W P cf it mu m (.region id ⟨os⟩ true) s Q τ =
  altW (m.al id) (dOk os .mk/\WD P cf mu os 0 os s [] (fun l s=>pairsOk ⟨os⟩ l=true/\Q .norm (dropSt (m.dd id) (actL (m.ra id) s))) .mk)
   (fun p q ord=>dOk os .mk/\altO ⟨os⟩ p q ord=true/\WD P cf mu os 0 os s [] (fun l s1=>pairsX ⟨os⟩ p q l=true /\
     WI P cf mu os ord s [] (fun l2 s2=>pairsX ⟨os⟩ q p l2=true/\(St.beq s1 s2||St.swp s.h.length s1 s2)=true/\Q .norm (dropSt (m.dd id) (actL (m.ra id) s1))) .mk) .mk) .mk:=by
 simp only[W,WD,WI,evCode,evRegion,if_true,Dj,dOk];cases m.al id with
 | none=>
   simp only[altW];cases evOpsD P cf mu os 0 os s with
   | none=>simp[bindW]
   | some q=>
     obtain⟨l,s'⟩:=q;simp only[Ac,List.nil_append];by_cases h1:drawOk ⟨os⟩=true<;>by_cases h2:pairsOk ⟨os⟩ l=true<;>simp[h1,h2,bindW]
 | some a=>
   obtain⟨p,q,ord⟩:=a;simp only[altW];cases evOpsD P cf mu os 0 os s with
   | none=>simp[bindW]
   | some x=>
     obtain⟨l,s1⟩:=x;simp only[Ac,List.nil_append];cases evOpsI P cf mu os ord s with
     | none=>simp[bindW]
     | some y=>
       obtain⟨l2,s2⟩:=y;simp only[Ac,List.nil_append];by_cases h1:drawOk ⟨os⟩=true<;>by_cases h2:altO ⟨os⟩ p q ord=true<;>by_cases h3:pairsX ⟨os⟩ p q l=true<;>by_cases h4:pairsX ⟨os⟩ q p l2=true<;>by_cases h5:(St.beq s1 s2||St.swp s.h.length s1 s2)=true<;>simp[h1,h2,h3,h4,h5,bindW]
theorem LV {f n:Nat}:(cfgOf pol f n).al=pol.alts f:=rfl
mutual
def AV.plain:AV->Bool
 | .rf _ _ _ _ | .ms _ _ _ _ _ | .mpr _ | .yld _=>false
 | .sl t xs=>!t&&AV.plainL xs
 | .pt xs=>AV.plainL xs
 | .clo _ xs=>AV.plainL xs
 | .clb _ xs=>AV.plainL xs
 | .agg xs=>AV.plainL xs
 | .tup xs=>AV.plainL xs
 | .ifc _ x=>AV.plain x
 | _=>true
def AV.plainL:List AV->Bool
 | []=>true
 | x::xs=>AV.plain x&&AV.plainL xs
end
theorem C9 (l:List AV):AV.plainL l=true↔∀ x∈l,AV.plain x=true:=by
 induction l with
 | nil=>simp[AV.plainL]
 | cons a l ih=>simp[AV.plainL,ih]
mutual
theorem Cp (jump:List AV->List MB->Option (List AV×List MB)):∀(a:AV) (H:List MB),AV.plain a=true->fzA jump a H=some (a,H)
 | .sl t xs,H,h=>by
   simp only[AV.plain,and_eq_true,Bool.not_eq_true']at h;obtain⟨rfl,h2⟩:=h;simp only[fzA,BC jump xs H h2]
 | .pt xs,H,h=>by simp only[AV.plain]at h;simp only[fzA,BC jump xs H h]
 | .agg xs,H,h=>by simp only[AV.plain]at h;simp only[fzA,BC jump xs H h]
 | .tup xs,H,h=>by simp only[AV.plain]at h;simp only[fzA,BC jump xs H h]
 | .rf _ _ _ _,H,h=>by simp[AV.plain]at h
 | .ms _ _ _ _ _,H,h=>by simp[AV.plain]at h
 | .mpr _,H,h=>by simp[AV.plain]at h
 | .yld _,H,h=>by simp[AV.plain]at h
 | .top,H,h=>rfl
 | .int _ _,H,h=>rfl
 | .bool _,H,h=>rfl
 | .str _,H,h=>rfl
 | .nilp,H,h=>rfl
 | .nilf,H,h=>rfl
 | .nili,H,h=>rfl
 | .nilm,H,h=>rfl
 | .clo _ _,H,h=>rfl
 | .clb _ _,H,h=>rfl
 | .ifc _ _,H,h=>rfl
 | .psl _ _ _,H,h=>rfl
theorem BC (jump:List AV->List MB->Option (List AV×List MB)):∀(l:List AV) (H:List MB),AV.plainL l=true->fzL jump l H=some (l,H)
 | [],H,_=>rfl
 | x::xs,H,h=>by
   simp only[AV.plainL,and_eq_true]at h;simp only[fzL,Cp jump x H h.1,BC jump xs H h.2]
end
mutual
theorem AJ (n:Nat):∀(a:AV),AV.plain a=true->AV.under n a=true
 | .sl t xs,h=>by
   simp only[AV.plain,and_eq_true]at h;simp only[AV.under,AG n xs h.2]
 | .pt xs,h=>by simp only[AV.plain]at h;simp only[AV.under,AG n xs h]
 | .agg xs,h=>by simp only[AV.plain]at h;simp only[AV.under,AG n xs h]
 | .tup xs,h=>by simp only[AV.plain]at h;simp only[AV.under,AG n xs h]
 | .clo _ xs,h=>by simp only[AV.plain]at h;simp only[AV.under,AG n xs h]
 | .clb _ xs,h=>by simp only[AV.plain]at h;simp only[AV.under,AG n xs h]
 | .ifc _ x,h=>by simp only[AV.plain]at h;simp only[AV.under,AJ n x h]
 | .rf _ _ _ _,h=>by simp[AV.plain]at h
 | .ms _ _ _ _ _,h=>by simp[AV.plain]at h
 | .mpr _,h=>by simp[AV.plain]at h
 | .yld _,h=>by simp[AV.plain]at h
 | .psl _ _ _,h=>rfl
 | .top,h=>rfl
 | .int _ _,h=>rfl
 | .bool _,h=>rfl
 | .str _,h=>rfl
 | .nilp,h=>rfl
 | .nilf,h=>rfl
 | .nili,h=>rfl
 | .nilm,h=>rfl
theorem AG (n:Nat):∀(l:List AV),AV.plainL l=true->AV.underL n l=true
 | [],_=>rfl
 | x::xs,h=>by
   simp only[AV.plainL,and_eq_true]at h;simp only[AV.underL,AJ n x h.1,AG n xs h.2,Bool.and_self]
end
theorem Ao {a:AV} (H:List MB) (h:AV.plain a=true):fz a H=some (a,H):=Cp _ a H h
theorem Gd (H K:List MB):keptOk 0 [] K=true:=by cases K<;>rfl
theorem Hg {f:Nat}{args:List AV}{r:AV} (hp:pol.pure f=true) (ha:AV.plainL args=true) (hr:AV.plain r=true)
  (h:evBody P pol (call P pol) itL f args []=some (r,[])) (H:List MB):call P pol f args H=some (r,H):=by
 have hf:∀(l:List AV) (i:Nat),AV.plainL l=true->frzArgs pol f i l H=some (l,H):=by
  intro l
  induction l with
  | nil=>intro i _;rfl
  | cons x l ih=>
    intro i h;simp only[AV.plainL,and_eq_true]at h;simp only[frzArgs,Ao H h.1,ih (i+1) h.2];split<;>simp_all
 rw[Bn];unfold evStep;rw[if_pos hp];simp only[hf args 0 ha,AG 0 args ha,if_true,h,rebase,AJ 0 r hr]
theorem F0 {d:Nat}{b:Bool}{t:Tm}{X Y:Tm->Prop} {τ}:guardW (d,.bool b) true t X Y τ=splitB b (X (upd d (.bool true) t)) (Y (upd d (.bool false) t)) .mk:=by
 simp[B5]
theorem F1 {d:Nat}{b:Bool}{t:Tm}{X Y:Tm->Prop} {τ}:guardW (d,.bool b) false t X Y τ=splitB b (Y (upd d (.bool true) t)) (X (upd d (.bool false) t)) .mk:=by
 simp[B5]
theorem I6 {n:Nat}{t:Tm}{H:List MB}{i:Nat}{v:AV}:St.put ⟨n,t,H⟩ (some i) v=⟨n,if i<n then ins i v t else t,H⟩:=rfl
theorem I7 {n:Nat}{t:Tm}{H:List MB}{v:AV}:St.put ⟨n,t,H⟩ none v=⟨n,t,H⟩:=rfl
theorem LP {n:Nat}{t:Tm}{H:List MB}{i:Nat}:St.ev ⟨n,t,H⟩ (.tmp i)=lookD t i:=rfl
theorem LQ {n:Nat}{t:Tm}{H:List MB}{v:Value}:St.ev ⟨n,t,H⟩ (.const v)=ofK v:=rfl
theorem Kk {n:Nat}{t:Tm}{H:List MB}{f:Nat}:St.ev ⟨n,t,H⟩ (.func f)=.clo f []:=rfl
theorem KU {k:IntKind}{n:Int}:ofK (.int k n)=.int k n:=rfl
theorem JE {b:Bool}:ofK (.bool b)=.bool b:=rfl
theorem KS {b:ByteArray}:ofK (.string b)=.str b:=rfl
theorem KV {l:List Value}:ofK (.agg ⟨l⟩)=if l.all Value.oneCell' = true then .agg (l.map ofC) else .top:=rfl
theorem KY {k:IntKind}{n:Int}:ofC (.int k n)=.int k n:=rfl
theorem JG {b:Bool}:ofC (.bool b)=.bool b:=rfl
theorem KW {b:ByteArray}:ofC (.string b)=.str b:=rfl
theorem KX:ofC (.slice none 0 0)=.sl true []:=rfl
theorem JF:ofC (.pointer none)=.nilp:=rfl
theorem KQ {k:IntKind}{n:Int}:Value.oneCell' (.int k n)=true:=rfl
theorem JD {b:Bool}:Value.oneCell' (.bool b)=true:=rfl
theorem KO {b:ByteArray}:Value.oneCell' (.string b)=true:=rfl
theorem KP:Value.oneCell' (.slice none 0 0)=true:=rfl
theorem JC:Value.oneCell' (.pointer none)=true:=rfl
theorem KT:ofK (.slice none 0 0)=.sl true []:=rfl
theorem CD {f:Nat} (hb:∀ i,pol.byref f i=false) (H:List MB):∀(l:List AV) (i:Nat),AV.plainL l=true->frzArgs pol f i l H=some (l,H)
 | [],_,_=>rfl
 | x::l,i,h=>by
   simp only[AV.plainL,and_eq_true]at h;simp only[frzArgs,hb,false_eq_true,if_false,Ao H h.1,CD hb H l (i+1) h.2]
def retK (P:Program) (rs:List ResultVar) (r:AV):EX->St->Prop
 | .exit _,_=>False
 | _,s=>bindW (evResults P s rs) (fun vs=>∃ H',fz (packRes vs) s.h=some (r,H')) .mk
theorem IK {rs r s}:retK P rs r .norm s=bindW (evResults P s rs) (fun vs=>∃ H',fz (packRes vs) s.h=some (r,H')) .mk:=rfl
theorem I4 {rs r s}:retK P rs r .ret s=bindW (evResults P s rs) (fun vs=>∃ H',fz (packRes vs) s.h=some (r,H')) .mk:=rfl
theorem fzEq {r r':AV}{H:List MB} (h:AV.plain r=true) (e:r=r'):(∃ H',fz r H=some (r',H')):=⟨H,e ▸ Ao H h⟩
theorem AQ {f:Nat}{args:List AV}{r:AV}{fn:Func}{c:Code} (hf:P.funcs[f]?=some fn) (hc:fn.body=some c) (hn:(fn.name == "runtime.NumGoroutine")=false)
  (hp:pol.pure f=true) (he:pol.ext f=none) (hk:pol.keep f=false) (ho:pol.own f=false) (hb:∀ i,pol.byref f i=false)
  (ha:AV.plainL args=true) (hr:AV.plain r=true)
  (h:W P (call P pol) itL (pol.muts f) (cfgOf pol f 0) c ⟨args.length+(fn.ntmps-args.length),initT 0 args [],[]⟩ (retK P fn.results.toList r) .mk) (H:List MB) :
  call P pol f args H=some (r,H):=by
 refine Hg hp ha hr ?_ H;obtain⟨⟨e,s⟩,hev,hk2⟩:=h;have fin:∀ {vs:List AV}{H':List MB},fz (packRes vs) s.h=some (r,H')->retPol pol f [] (packRes vs) s.h=some (r,[]):=by
  intro vs H' hz;unfold retPol;simp only[hk,ho,false_eq_true,if_false,hz,List.length_nil,AJ 0 r hr,Gd [] H',and_self,if_true,List.take_zero]
 unfold evBody;simp only[he,hf,hc];rw[if_neg (by simpa using hn)];simp only[CD hb [] args 0 ha,List.length_nil,hev];cases e with
 | exit id=>exact hk2.elim
 | norm=>
   obtain⟨vs,h1,H',h2⟩:=hk2;simp only[h1];exact fin h2
 | ret=>
   obtain⟨vs,h1,H',h2⟩:=hk2;simp only[h1];exact fin h2
theorem JB {m:Msk}{n k:Nat}{t t':Tm}{h h':List MB} (hz:m.acts=[]) (hg:m.gc=some n) (hc:keepT m.k t=t') (he:h.take n=h') (ht:AV.underL n (t'.map (·.2))=true) (hh:h'.all (MB.under n)=true) :
  prep m ⟨k,t,h⟩=⟨k,t',h'⟩:=by
 subst he;unfold prep prepG;simp only[hz,actL,hg,hc,ht,hh,and_self,if_true]
theorem JS {d:Nat}{v:AV}{t:Tm}:look ((d,v)::t) d=some v:=by simp[look]
theorem IQ {d:Nat}{v:AV}{t:Tm}:lookD ((d,v)::t) d=v:=by simp[lookD,look]
theorem HT {k d:Nat}{v:AV}{t:Tm}:lookD ((k,v)::t) d=if k=d then v else lookD t d:=by
 by_cases h:k=d<;>simp[lookD,look,h]
theorem IP {d:Nat}:lookD [] d=.top:=rfl
theorem Kd {d:Nat}{u v:AV}{t:Tm}:ins d v ((d,u)::t)=(d,v)::t:=by simp[ins]
theorem J9 {d:Nat}{u v:AV}{t:Tm}:upd d v ((d,u)::t)=(d,v)::t:=by simp[upd]
theorem I5 {d:Nat}{u:AV}{t:Tm}:rem1 d ((d,u)::t)=t:=by simp[rem1]
theorem Ic {n:Nat}{l:List Nat}{t:Tm}{H:List MB}:dropSt l ⟨n,t,H⟩=⟨n,dropT l t,H⟩:=rfl
theorem LT {f n:Nat}:(cfgOf pol f n).dd=pol.dead f:=rfl
theorem LR {f n:Nat}:(cfgOf pol f n).ra=pol.racts f:=rfl
theorem Jz {s:St}:actL [] s=s:=rfl
theorem Io {a:SA}{l:List SA}{s:St}:actL (a::l) s=actL l (act1 s a):=rfl
theorem Is {d:Nat}{u v:AV}{t:Tm}:updT d v ((d,u)::t)=(d,v)::t:=by simp[updT]
theorem LU {f n:Nat}:(cfgOf pol f n).bd=pol.bdead f:=rfl
theorem Kt {b:Bool}{x y:Code}{s:St}{Q:EX->St->Prop} {τ}:W P cf it mu m (.cond (.const (.bool b)) x y) s Q τ=if b=true then W P cf it mu m x s Q .mk else W P cf it mu m y s Q .mk:=by
 have e:s.ev (.const (.bool b))=.bool b:=rfl;simp only[W,evCode,e];cases b<;>simp
variable [VarTab]
set_option linter.unusedSectionVars false
open Go.RowKit Go.IntWalk
section
variable {a b:Int}
theorem L8 (h:a<b):decide (a<b)=true:=decide_eq_true h
theorem L9 (h:b<=a):decide (a<b)=false:=decide_eq_false (by omega)
theorem MA (h:a<=b):decide (a<=b)=true:=decide_eq_true h
theorem MC (h:b<a):decide (a<=b)=false:=decide_eq_false (by omega)
theorem MD (h:b<a):decide (a > b)=true:=decide_eq_true h
theorem ME (h:a<=b):decide (a > b)=false:=decide_eq_false (by omega)
theorem MF (h:b<=a):decide (a >= b)=true:=decide_eq_true h
theorem MG (h:a<b):decide (a >= b)=false:=decide_eq_false (by omega)
theorem MO (h:a=b):(a==b)=true:=by simp[h]
theorem MP (h:a≠b):(a==b)=false:=by simp[h]
theorem MM (h:a≠b):(a != b)=true:=by simp[h]
theorem MN (h:a=b):(a != b)=false:=by simp[h]
theorem lt_T (h:a<b):(a<b)=True:=by simp[h]
theorem le_T (h:a<=b):(a<=b)=True:=by simp[h]
end
theorem Lv {a b:Nat} (h:a<=b):(a<=b)=True:=by simp[h]
theorem Lw {a b:Nat} (h:b<a):(a<=b)=False:=by simp;omega
theorem AD {a:Nat} (h:a<=4611686018427387904):IntKind.i64.wrap ((a:Int)+1)=((a+1:Nat):Int):=by rw[i64_in];rfl;omega
theorem AC {a:Nat} (h:a<=4611686018427387904):IntKind.i64.wrap (((a+1:Nat):Int)-1)=(a:Int):=by rw[i64_in]<;>omega
theorem AB {a:Nat} (h:0<a/\a<=4611686018427387904):IntKind.i64.wrap ((a:Int)-1)=((a-1:Nat):Int):=by rw[i64_in]<;>omega
theorem AA {a b:Nat} (h:b<=a/\a<=4611686018427387904):IntKind.i64.wrap ((a:Int)-(b:Int))=((a-b:Nat):Int):=by rw[i64_in]<;>omega
section
variable {α:Type} (a0 a1 a2 a3 a4 a5 a6 a7 a8 a9 a10 a11 a12 a13 a14 a15:α) (t:List α) (n:Nat)
theorem HY:(a0::a1::a2::a3::a4::a5::a6::a7::a8::a9::a10::a11::a12::a13::a14::a15::t)[n+16]?=t[n]?:=by simp
end
section
variable {α:Type} (a0 a1 a2 a3:α) (t:List α) (n:Nat)
theorem Lo (v:α):(a0::a1::a2::a3::t).set (n+4) v=a0::a1::a2::a3::t.set n v:=rfl
theorem IT:(a0::a1::a2::a3::t)[n+4]?=t[n]?:=by simp
theorem Ls (a v:α):(a::t).set 0 v=v::t:=rfl
theorem Lr (a b v:α):(a::b::t).set 1 v=a::v::t:=rfl
theorem Lq (a b c v:α):(a::b::c::t).set 2 v=a::b::v::t:=rfl
theorem Lp (a b c d v:α):(a::b::c::d::t).set 3 v=a::b::c::v::t:=rfl
end
variable {P:Program}{pol:Pol}
theorem AT {f:Nat}{args as:List AV}{H H1:List MB}{r:AV×List MB}{fn:Func}{c:Code} (hf:P.funcs[f]?=some fn) (hc:fn.body=some c) (hn:(fn.name == "runtime.NumGoroutine")=false)
  (hp:pol.pure f=false) (he:pol.ext f=none) (ha:frzArgs pol f 0 args H=some (as,H1))
  (h:W P (call P pol) itL (pol.muts f) (cfgOf pol f H1.length) c ⟨as.length+(fn.ntmps-as.length),initT 0 as [],H1⟩ (endK P pol f H1 fn.results.toList r) .mk) (hy:f≠yldF:=by decide) :
  call P pol f args H=some r:=by
 rw[Bn];unfold evStep;rw[if_neg (by simp[hp]),if_neg hy];refine IZ he hf hc hn ?_;rw[ha,Ac];exact h
theorem GV {f:Nat}{H1 H H':List MB}{r:AV} (hk:pol.keep f=false) (ho:pol.own f=false) (hr:AV.plain r=true) (h:keptOk H1.length H1 H=true) (hh:H.take H1.length=H') :
  retPol pol f H1 r H=some (r,H'):=by
 unfold retPol;simp only[hk,ho,false_eq_true,if_false,Ao H hr,AJ _ r hr,h,and_self,if_true,hh]
theorem HZ {n id k tot off len z:Nat}{H H':List MB}{els ys:List AV} (hr:getRow H id=some (k,els,z)) (h1:els.length=tot) (h2:off+len<=tot)
  (hp:fzL (fzJ n) ((els.drop off).take len) (mark H id (off+len))=some (ys,H')) :
  fzA (fzJ (n+1)) (.ms id k tot off len) H=some (.sl false ys,H'):=by
 simp only[fzA,hr,h1,h2,and_self,if_true,fzJ,hp]
theorem EB {j:List AV->List MB->Option (List AV×List MB)}{xs:List AV}{H:List MB}:fzA j (.agg xs) H=match fzL j xs H with
 | some (ys,H')=>some (.agg ys,H')
 | none=>none:=rfl
theorem F3 {j:List AV->List MB->Option (List AV×List MB)}{k:IntKind}{n:Int}{H:List MB}:fzA j (.int k n) H=some (.int k n,H):=rfl
variable [VarTab]
set_option linter.unusedSectionVars false
open Go.RowKit Go.IntWalk
variable {P:Program}{pol:Pol}
theorem AH (n:Nat) (xs ys:List AV):AV.underL n (xs++ys)=(AV.underL n xs&&AV.underL n ys):=by
 induction xs with
 | nil=>simp[AV.underL]
 | cons a xs ih=>simp[AV.underL,ih,Bool.and_assoc]
theorem Ak {α:Type} (a:α):(some a).toList=[a]:=rfl
def retE (P:Program) (rs:List ResultVar) (Post:AV->Prop):EX->St->Prop
 | .exit _,_=>False
 | _,s=>bindW (evResults P s rs) (fun vs=>∃ r,Post r/\∃ H',fz (packRes vs) s.h=some (r,H')) .mk
theorem BA {rs}{Post:AV->Prop} {s}:retE P rs Post .norm s=bindW (evResults P s rs) (fun vs=>∃ r,Post r/\∃ H',fz (packRes vs) s.h=some (r,H')) .mk:=rfl
theorem BG {rs}{Post:AV->Prop} {s}:retE P rs Post .ret s=bindW (evResults P s rs) (fun vs=>∃ r,Post r/\∃ H',fz (packRes vs) s.h=some (r,H')) .mk:=rfl
variable [VarTab]
set_option linter.unusedSectionVars false
open Go.RowKit Go.IntWalk
variable {P:Program}{pol:Pol}
theorem If {f:Nat}{args:List AV}{Post:AV->Prop}{fn:Func}{c:Code} (hf:P.funcs[f]?=some fn) (hc:fn.body=some c) (hn:(fn.name == "runtime.NumGoroutine")=false)
  (hp:pol.pure f=true) (he:pol.ext f=none) (hk:pol.keep f=false) (ho:pol.own f=false) (hb:∀ i,pol.byref f i=false)
  (ha:AV.plainL args=true) (hr:∀ r,Post r->AV.plain r=true)
  (h:W P (call P pol) itL (pol.muts f) (cfgOf pol f 0) c ⟨args.length+(fn.ntmps-args.length),initT 0 args [],[]⟩ (retE P fn.results.toList Post) .mk) :
  ∃ r,Post r/\∀ H,call P pol f args H=some (r,H):=by
 obtain⟨⟨e,s⟩,h1,h2⟩:=h;have key:∃ r,Post r/\retK P fn.results.toList r e s:=by
  cases e with
  | exit id=>exact h2.elim
  | norm=>
    obtain⟨vs,a,r,b,c⟩:=h2;exact⟨r,b,vs,a,c⟩
  | ret=>
    obtain⟨vs,a,r,b,c⟩:=h2;exact⟨r,b,vs,a,c⟩
 obtain⟨r,hP,hret⟩:=key;exact⟨r,hP,AQ hf hc hn hp he hk ho hb ha (hr r hP) ⟨(e,s),h1,hret⟩⟩
variable [VarTab]
set_option linter.unusedSectionVars false
open Go.RowKit Go.IntWalk
variable {P:Program}{pol:Pol}
theorem Al (x:MB) (l l':List MB):sameAt 0 (x::l) (x::l')=true:=by simp[sameAt,MB.beq_refl]
theorem Az (x y x':MB) (l l':List MB):sameAt 1 (x::y::l) (x'::y::l')=true:=by simp[sameAt,MB.beq_refl]
theorem Ae (x y z x' y':MB) (l l':List MB):sameAt 2 (x::y::z::l) (x'::y'::z::l')=true:=by simp[sameAt,MB.beq_refl]
theorem Am (x y z u x' y' z':MB) (l l':List MB):sameAt 3 (x::y::z::u::l) (x'::y'::z'::u::l')=true:=by simp[sameAt,MB.beq_refl]
theorem An (x y z u v x' y' z' u':MB) (l l':List MB):sameAt 4 (x::y::z::u::v::l) (x'::y'::z'::u'::v::l')=true:=by simp[sameAt,MB.beq_refl]
theorem Ap {n b:Nat} (h:n<=4000000000) (hb:b<=8000):roomFor n b=true:=by
 have:n*b<=4000000000*8000:=Nat.mul_le_mul h hb;simp[roomFor];omega
theorem take_len {α:Type}{l:List α}{n:Nat} (h:l.length=n):l.take n=l:=List.take_of_length_le (Nat.le_of_eq h)
theorem EA {n id k tot z:Nat}{H:List MB}{els:List AV} (hr:getRow H id=some (k,els,z)) (h1:els.length=tot) (hp:AV.plainL els=true) :
  fzA (fzJ (n+1)) (.ms id k tot 0 tot) H=some (.sl false els,mark H id tot):=by
 have:=HZ (n:=n) (off:=0) (len:=tot) (ys:=els) (H':=mark H id (0+tot)) hr h1 (by omega) (by rw[List.drop_zero,take_len h1];exact BC _ _ _ hp)
 rwa [Nat.zero_add]at this
theorem Eg {id k tot z:Nat}{H:List MB}{els:List AV} (hr:getRow H id=some (k,els,z)) (h1:els.length=tot) (hp:AV.plainL els=true) :
 fz (.ms id k tot 0 tot) H=some (.sl false els,mark H id tot):=EA hr h1 hp
theorem Ja {id tot i j k z:Nat}{H:List MB}{els:List AV}{x:AV} (hr:getRow H id=some (k,els,z)) (h1:els.length=tot) (hx:els[i]?=some x) (hp:AV.plainL (x.cells.drop j)=true) :
  fz (.rf id tot i j) H=some (.pt (x.cells.drop j),mark H id (i+1)):=by
 simp only[fz,fzA,hr,h1,if_true,hx,fzJ,BC _ _ _ hp]
theorem AX {m:Msk}{n k:Nat}{t:Tm}{h:List MB}{s:St} (hz:m.acts=[]) (hg:m.gc=some n) (ht:AV.underL n ((keepT m.k t).map (·.2))=true) (hh:(h.take n).all (MB.under n)=true)
  (he:(⟨k,keepT m.k t,h.take n⟩:St)=s):prep m ⟨k,t,h⟩=s:=by
 subst he;exact JB hz hg rfl rfl ht hh
variable [VarTab]
set_option linter.unusedSectionVars false
theorem Kj {j:List AV->List MB->Option (List AV×List MB)}{xs:List AV}{H:List MB}:fzA j (.tup xs) H=match fzL j xs H with
 | some (ys,H')=>some (.tup ys,H')
 | none=>none:=rfl
variable [VarTab]
set_option linter.unusedSectionVars false
theorem HX {α:Type} (n:Nat) (l:List α):(l.take (n+1)).head?=l.head?:=by cases l<;>simp
variable {P:Program}{pol:Pol}
def endE (P:Program) (pol:Pol) (f:Nat) (H1:List MB) (rs:List ResultVar) (Post:AV×List MB->Prop):EX->St->Prop
 | .exit _,_=>False
 | _,s=>bindW (evResults P s rs) (fun vs=>∃ r,Post r/\retPol pol f H1 (packRes vs) s.h=some r) .mk
theorem Ib {f H1 rs}{Post:AV×List MB->Prop} {s}:endE P pol f H1 rs Post .norm s=bindW (evResults P s rs) (fun vs=>∃ r,Post r/\retPol pol f H1 (packRes vs) s.h=some r) .mk:=rfl
theorem Jj {f H1 rs}{Post:AV×List MB->Prop} {s}:endE P pol f H1 rs Post .ret s=bindW (evResults P s rs) (fun vs=>∃ r,Post r/\retPol pol f H1 (packRes vs) s.h=some r) .mk:=rfl
theorem Hf {f:Nat}{args l:List AV}{H H1:List MB}{Post:AV×List MB->Prop}{fn:Func}{c:Code} (hf:P.funcs[f]?=some fn) (hc:fn.body=some c) (hn:(fn.name == "runtime.NumGoroutine")=false)
  (hp:pol.pure f=false) (he:pol.ext f=none) (ha:frzArgs pol f 0 args H=some (l,H1))
  (h:W P (call P pol) itL (pol.muts f) (cfgOf pol f H1.length) c ⟨l.length+(fn.ntmps-l.length),initT 0 l [],H1⟩ (endE P pol f H1 fn.results.toList Post) .mk) (hy:f≠yldF:=by decide) :
  ∃ r,Post r/\call P pol f args H=some r:=by
 obtain⟨⟨e,s⟩,h1,h2⟩:=h;have key:∃ r,Post r/\endK P pol f H1 fn.results.toList r e s:=by
  cases e with
  | exit id=>exact h2.elim
  | norm=>
    obtain⟨vs,a,r,b,c⟩:=h2;exact⟨r,b,vs,a,c⟩
  | ret=>
    obtain⟨vs,a,r,b,c⟩:=h2;exact⟨r,b,vs,a,c⟩
 obtain⟨r,hP,hret⟩:=key;exact⟨r,hP,AT hf hc hn hp he ha ⟨(e,s),h1,hret⟩ hy⟩
def mixOk (pol:Pol) (f:Nat):Nat->List AV->Bool
 | _,[]=>true
 | i,x::l=>(pol.byref f i||AV.plain x)&&mixOk pol f (i+1) l
theorem AR {f:Nat} (H:List MB):∀(l:List AV) (i:Nat),mixOk pol f i l=true->frzArgs pol f i l H=some (l,H)
 | [],_,_=>rfl
 | x::l,i,h=>by
   simp only[mixOk,and_eq_true,Bool.or_eq_true]at h;have h2:=AR H l (i+1) h.2;cases hb:pol.byref f i with
   | true=>simp[frzArgs,hb,h2]
   | false=>
     have:AV.plain x=true:=by simpa [hb] using h.1
     simp[frzArgs,hb,h2,Ao H this]
variable [VarTab]
set_option linter.unusedSectionVars false
open Go.RowKit Go.IntWalk
variable {P:Program}{pol:Pol}
inductive KeepL (j:List AV->List MB->Option (List AV×List MB)):List AV->List AV->Prop where
 | nil:KeepL j [] []
 | cons {x y:AV}{a b:List AV} (h:∀ H,fzA j x H=some (y,H)) (t:KeepL j a b):KeepL j (x::a) (y::b)
theorem KeepL.fz {j:List AV->List MB->Option (List AV×List MB)}{a b:List AV} (h:KeepL j a b) (H:List MB):fzL j a H=some (b,H):=by
 induction h with
 | nil=>rfl
 | cons h _ ih=>simp only[fzL,h,ih]
theorem KeepL.append {j:List AV->List MB->Option (List AV×List MB)}{a b c d:List AV} (h:KeepL j a b) (h2:KeepL j c d):KeepL j (a++c) (b++d):=by
 induction h with
 | nil=>exact h2
 | cons h _ ih=>exact .cons h ih
theorem KeepL.plain {j:List AV->List MB->Option (List AV×List MB)}:∀ {a:List AV},AV.plainL a=true->KeepL j a a
 | [],_=>.nil
 | x::a,h=>by
   simp only[AV.plainL,and_eq_true]at h;exact .cons (fun H=>Cp j x H h.1) (KeepL.plain h.2)
theorem KeepL.one {j:List AV->List MB->Option (List AV×List MB)}{x y:AV} (h:∀ H,fzA j x H=some (y,H)):KeepL j [x] [y]:=.cons h .nil
theorem KeepL.len {j:List AV->List MB->Option (List AV×List MB)}{a b:List AV} (h:KeepL j a b):b.length=a.length:=by
 induction h with
 | nil=>rfl
 | cons _ _ ih=>simp[ih]
theorem BV {H:List MB}{sT xT e k by_ id n z:Nat}{ze x:AV}{els ys:List AV} (he:tyElem P sT=some e) (hxT:tyNotInt P xT=true) (hk:tySz P e=some k) (hby:tyBytes P e=some by_) (hze:tyZero P e=some ze) (hzl:ze.cells.length=k) (hk0:0<k)
  (hs:srcElems P H e x=some ys) (hw:ys.all (fun y=>decide (y.cells.length=k)&&y.cells.all AV.ok)=true) (hr1:getRow1 H id=some (k,els,z)) (hl:els.length=n) (hz:z<=n) (hroom:roomFor (n+ys.length) by_=true) :
  evAppend P H sT xT (.ms id k n 0 n) x=some (.ms id k (n+ys.length) 0 (n+ys.length),H.set id (.row k (els++ys) z)):=by
 have hr:=Gl hr1;have hm:=Ee hr1;have hkt:keepTag P H id 0 e=none:=by unfold keepTag;rw[hm];simp
 unfold evAppend;simp only[he,hxT,hk,hby,hze,hs];rw[if_pos ⟨hw,hk0,hzl⟩];simp only[hr];rw[if_pos ⟨hl,trivial,trivial,by omega⟩];have hid:=(List.getElem?_eq_some_iff.1 hm).1;cases ys with
 | nil=>
   simp only[List.length_nil,Nat.add_zero,List.append_nil];have:H.set id (.row k els z)=H:=by
    apply List.ext_getElem?;intro q;by_cases e:id=q
    ·subst e;rw[List.getElem?_set_self hid,hm]
    ·rw[List.getElem?_set_ne e]
   rw[this]
 | cons y ys=>
   simp only[];rw[if_pos ⟨by omega,hroom⟩,if_neg (by simp)];have ht:els.take (0+n)=els:=List.take_of_length_le (by omega);rw[ht,hkt];simp[MB.mk]
theorem C2 {H:List MB}{sT xT e k by_ id n z:Nat}{ze x:AV}{els ys:List AV} (he:tyElem P sT=some e) (hxT:tyNotInt P xT=true) (hk:tySz P e=some k) (hby:tyBytes P e=some by_) (hze:tyZero P e=some ze) (hzl:ze.cells.length=k) (hk0:0<k)
  (hu:tyInt P e=some .u8) (hs:srcElems P H e x=some ys) (hw:ys.all (fun y=>decide (y.cells.length=k)&&y.cells.all AV.ok)=true) (hm:H[id]?=some (.tr e k els z)) (hl:els.length=n) (hz:z<=n) (hroom:roomFor (n+ys.length) by_=true) (h0:ys≠[]) :
  evAppend P H sT xT (.ms id k n 0 n) x=some (.ms id k (n+ys.length) 0 (n+ys.length),H.set id (.tr e k (els++ys) z)):=by
 have hr:getRow H id=some (k,els,z):=by unfold getRow;rw[hm]
 have hkt:keepTag P H id 0 e=some e:=by unfold keepTag;rw[hm];simp[hu]
 unfold evAppend;simp only[he,hxT,hk,hby,hze,hs];rw[if_pos ⟨hw,hk0,hzl⟩];simp only[hr];rw[if_pos ⟨hl,trivial,trivial,by omega⟩];cases ys with
 | nil=>exact absurd rfl h0
 | cons y ys=>
   try simp only[]
   rw[if_pos ⟨by omega,hroom⟩,if_neg (by simp)];have ht:els.take (0+n)=els:=List.take_of_length_le (by omega);rw[ht,hkt];simp[MB.mk]
variable [VarTab]
set_option linter.unusedSectionVars false
open Go.RowKit
variable {P:Program}
theorem Cf (n:Nat) (K:List MB):∀ H:List MB,keptOk n H (H++K)=true
 | []=>by cases K<;>rfl
 | x::H=>by simp[keptOk,MB.beq_refl,Cf n K H]
variable {B0:Nat}{w0:Base}{w:World}{I:Imm}{L:List Lay}
end Go.Ev
