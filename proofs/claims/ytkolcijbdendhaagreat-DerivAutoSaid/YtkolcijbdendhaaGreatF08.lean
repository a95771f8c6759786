/- Rules, continued: statements whose order is open; values that never change; whole calls. -/
import Derived.Test.YtkolcijbdendhaaGreatF07
import Derived.IntWalk
import Derived.Attr
set_option linter.unusedVariables false
set_option linter.unusedSimpArgs false
open List (drop_zero length_cons length_nil nil_append take_of_length_le)
open Bool (and_eq_true false_eq_true)
namespace Go.Ev
open Go.RowKit
variable {P:Program}{pol:Pol}{cf:CF}{it:It}{mu:List Nat}{m:Cfg}
mutual
theorem AV.beq_refl:∀ a:AV,AV.beq a a=true
 | .top | .nilp | .nilf | .nili | .nilm=>rfl
 | .int k n=>by simp[AV.beq]
 | .bool x=>by simp[AV.beq]
 | .str s=>by simp[AV.beq]
 | .sl t xs=>by simp[AV.beq,AV.beqL_refl xs]
 | .pt xs=>by simp[AV.beq,AV.beqL_refl xs]
 | .rf a b c d=>by simp[AV.beq]
 | .ms a b c d e=>by simp[AV.beq]
 | .mpr a=>by simp[AV.beq]
 | .yld a=>by simp[AV.beq]
 | .clo f xs=>by simp[AV.beq,AV.beqL_refl xs]
 | .clb f xs=>by simp[AV.beq,AV.beqL_refl xs]
 | .agg xs=>by simp[AV.beq,AV.beqL_refl xs]
 | .tup xs=>by simp[AV.beq,AV.beqL_refl xs]
 | .ifc t x=>by simp[AV.beq,AV.beq_refl x]
 | .psl a b c=>by simp[AV.beq]
theorem AV.beqL_refl:∀ l:List AV,AV.beqL l l=true
 | []=>rfl
 | x::xs=>by simp[AV.beqL,AV.beq_refl x,AV.beqL_refl xs]
end
theorem MB.beqE_refl:∀ l:List (AV×AV),MB.beqE l l=true
 | []=>rfl
 | (a,b)::l=>by simp[MB.beqE,AV.beq_refl,MB.beqE_refl l]
theorem MB.beqT_refl:∀ l:List (Nat×AV),MB.beqT l l=true
 | []=>rfl
 | (a,b)::l=>by simp[MB.beqT,AV.beq_refl,MB.beqT_refl l]
theorem Cx (c:Code×Code):codeEq c c=true:=by simp[codeEq]
theorem MB.beq_refl (b:MB):MB.beq b b=true:=by
 cases b<;>simp[MB.beq,AV.beqL_refl,MB.beqE_refl,MB.beqT_refl,Cx]
theorem Fz:∀ H:List MB,heapEq H H=true
 | []=>rfl
 | b::H=>by simp[heapEq,MB.beq_refl,Fz H]
theorem sameAt_refl (id:Nat) (H:List MB):sameAt id H H=true:=by
 unfold sameAt;cases H[id]?<;>simp[MB.beq_refl]
def dOk (os:List Oper) (_t:Tag os):Prop:=drawOk ⟨os⟩=true
def fpL (i:Nat) (o:Option FP):List (Nat×FP):=
 match o with
 | some p=>[(i,p)]
 | none=>[]
theorem PJ (i:Nat) (p:FP):fpL i (some p)=[(i,p)]:=rfl
theorem PK (i:Nat):fpL i none=[]:=rfl
def WD (P:Program) (cf:CF) (mu:List Nat) (ops:List Oper) (i:Nat) (rest:List Oper) (s:St) (acc:List (Nat×FP)) (Q:List (Nat×FP)->St->Prop) (_t:Tag2 rest Q):Prop:=
 bindW (evOpsD P cf mu ops i rest s) (fun q=>Q (acc++q.1) q.2) .mk
theorem R6 {ops:List Oper}{i:Nat}{s:St} {acc}{Q:List (Nat×FP)->St->Prop} {τ}:WD P cf mu ops i [] s acc Q τ=Q acc s:=by simp[WD,evOpsD,bindW]
theorem RM {ops rest:List Oper}{i:Nat} {dst op ty pos after}{n:Nat}{t:Tm}{H:List MB} {acc}{Q:List (Nat×FP)->St->Prop} {τ} :
  WD P cf mu ops i (⟨dst,op,ty,pos,after,none⟩::rest) ⟨n,t,H⟩ acc Q τ =
   bindW (evOp P cf mu (St.ev ⟨n,t,H⟩) H ⟨dst,op,ty,pos,after,none⟩) (fun q=>WD P cf mu ops (i+1) rest (St.put ⟨n,t,q.2⟩ dst q.1)
    (acc++fpL i (footprint mu (St.ev ⟨n,t,H⟩) ⟨dst,op,ty,pos,after,none⟩ H q.2)) Q .mk) .mk:=by
 simp only[WD,evOpsD,evOne,evWanted];cases h:evOp P cf mu (St.ev ⟨n,t,H⟩) H ⟨dst,op,ty,pos,after,none⟩ with
 | none=>simp[bindW]
 | some q=>
   obtain⟨v,H'⟩:=q;have hp:∀(d:Option Tmp),(St.put ⟨n,t,H'⟩ d v).h=H':=fun d=>by cases d<;>rfl
   cases h2:evOpsD P cf mu ops (i+1) rest (St.put ⟨n,t,H'⟩ dst v) with
   | none=>simp[bindW,h2]
   | some r=>
     obtain⟨l,s⟩:=r;simp only[Ao,h2,if_true,hp];cases footprint mu (St.ev ⟨n,t,H⟩) ⟨dst,op,ty,pos,after,none⟩ H H'<;>simp[fpL]
theorem Pm {ops rest:List Oper}{i:Nat} {dst op ty pos after}{j:Nat}{w:Bool}{n:Nat}{t:Tm}{H:List MB} {acc}{Q:List (Nat×FP)->St->Prop} {τ} :
  WD P cf mu ops i (⟨dst,op,ty,pos,after,some (j,w)⟩::rest) ⟨n,t,H⟩ acc Q τ =
  bindW (guardV ops j t) (fun q=>guardW q w t
   (fun t=>bindW (evOp P cf mu (St.ev ⟨n,t,H⟩) H ⟨dst,op,ty,pos,after,none⟩) (fun q=>WD P cf mu ops (i+1) rest (St.put ⟨n,t,q.2⟩ dst q.1) (acc++fpL i (footprint mu (St.ev ⟨n,t,H⟩) ⟨dst,op,ty,pos,after,none⟩ H q.2)) Q .mk) .mk)
   (fun t=>WD P cf mu ops (i+1) rest (St.put ⟨n,t,H⟩ dst (.tup [])) acc Q .mk) .mk) .mk:=by
 have hop:∀ g,evOp P cf mu (St.ev ⟨n,t,H⟩) H ⟨dst,op,ty,pos,after,g⟩=evOp P cf mu (St.ev ⟨n,t,H⟩) H ⟨dst,op,ty,pos,after,none⟩:=fun g=>rfl
 have run:evWanted ops ⟨n,t,H⟩ ⟨dst,op,ty,pos,after,some (j,w)⟩=some true->WD P cf mu ops i (⟨dst,op,ty,pos,after,some (j,w)⟩::rest) ⟨n,t,H⟩ acc Q τ =
   bindW (evOp P cf mu (St.ev ⟨n,t,H⟩) H ⟨dst,op,ty,pos,after,none⟩) (fun q=>WD P cf mu ops (i+1) rest (St.put ⟨n,t,q.2⟩ dst q.1) (acc++fpL i (footprint mu (St.ev ⟨n,t,H⟩) ⟨dst,op,ty,pos,after,none⟩ H q.2)) Q .mk) .mk:=by
  intro h;have hfp:∀ g H',footprint mu (St.ev ⟨n,t,H⟩) ⟨dst,op,ty,pos,after,g⟩ H H' = footprint mu (St.ev ⟨n,t,H⟩) ⟨dst,op,ty,pos,after,none⟩ H H':=fun g H'=>rfl;simp only[WD,evOpsD,evOne,h,hop,hfp];cases evOp P cf mu (St.ev ⟨n,t,H⟩) H ⟨dst,op,ty,pos,after,none⟩ with
  | none=>simp[bindW]
  | some q=>
    obtain⟨v,H'⟩:=q;have hp:∀(d:Option Tmp),(St.put ⟨n,t,H'⟩ d v).h=H':=fun d=>by cases d<;>rfl
    cases h2:evOpsD P cf mu ops (i+1) rest (St.put ⟨n,t,H'⟩ dst v) with
    | none=>simp[bindW,h2]
    | some r=>
      obtain⟨l,s⟩:=r;simp only[Ao,h2,if_true,hp];cases footprint mu (St.ev ⟨n,t,H⟩) ⟨dst,op,ty,pos,after,none⟩ H H'<;>simp[fpL]
 have skip:evWanted ops ⟨n,t,H⟩ ⟨dst,op,ty,pos,after,some (j,w)⟩=some false->WD P cf mu ops i (⟨dst,op,ty,pos,after,some (j,w)⟩::rest) ⟨n,t,H⟩ acc Q τ =
   WD P cf mu ops (i+1) rest (St.put ⟨n,t,H⟩ dst (.tup [])) acc Q .mk:=by
  intro h;simp only[WD,evOpsD,evOne,h];cases h2:evOpsD P cf mu ops (i+1) rest (St.put ⟨n,t,H⟩ dst (.tup [])) with
  | none=>simp[bindW]
  | some r=>
    obtain⟨l,s⟩:=r;simp[bindW]
 have stuck:evWanted ops ⟨n,t,H⟩ ⟨dst,op,ty,pos,after,some (j,w)⟩=none->WD P cf mu ops i (⟨dst,op,ty,pos,after,some (j,w)⟩::rest) ⟨n,t,H⟩ acc Q τ=False:=by
  intro h;simp only[WD,evOpsD,evOne,h,DT]
 unfold guardV;cases hq0:ops[j]? with
 | none=>
   rw[skip (by simp[evWanted,hq0])];simp only[Ao,Co]
 | some q=>
   simp only[];cases hd:q.dst with
   | none=>
     rw[skip (by simp[evWanted,hq0,hd])];simp only[Ao,Co]
   | some d=>
     simp only[];cases htd:look t d with
     | none=>
       rw[stuck (by simp[evWanted,hq0,hd,htd])];simp[bindW]
     | some u=>
       simp only[Option.map_some,Ao];have st:(∀ b,u≠.bool b)->u≠.tup []->evWanted ops ⟨n,t,H⟩ ⟨dst,op,ty,pos,after,some (j,w)⟩=none:=by
        intro h1 h2;simp only[evWanted,hq0,hd,htd];cases u with
        | bool b=>exact absurd rfl (h1 b)
        | tup l=>cases l with
          | nil=>exact absurd rfl h2
          | cons a l=>rfl
        | _=>rfl
       have ss:=Eo htd;cases u with
       | bool b=>
         rw[Ct];cases b<;>cases w
         ·rw[run (by simp[evWanted,hq0,hd,htd]),Bq,if_pos rfl,ss]
         ·rw[skip (by simp[evWanted,hq0,hd,htd])];simp[Bq,ss]
         ·rw[skip (by simp[evWanted,hq0,hd,htd])];simp[B3,ss]
         ·rw[run (by simp[evWanted,hq0,hd,htd]),B3,if_pos rfl,ss]
       | tup l=>
         cases l with
         | nil=>rw[skip (by simp[evWanted,hq0,hd,htd])];rfl
         | cons a l=>rw[stuck (st (by simp) (by simp))];rfl
       | _=>rw[stuck (st (by simp) (by simp))];rfl
def WI (P:Program) (cf:CF) (mu:List Nat) (ops:List Oper) (ord:List Nat) (s:St) (acc:List (Nat×FP)) (Q:List (Nat×FP)->St->Prop) (_t:Tag2 ord Q):Prop:=
 bindW (evOpsI P cf mu ops ord s) (fun q=>Q (acc++q.1) q.2) .mk
theorem R5 {ops:List Oper}{s:St} {acc}{Q:List (Nat×FP)->St->Prop} {τ}:WI P cf mu ops [] s acc Q τ=Q acc s:=by simp[WI,evOpsI,bindW]
theorem RL {ops:List Oper}{i:Nat}{rest:List Nat}{s:St} {acc}{Q:List (Nat×FP)->St->Prop} {τ} :
  WI P cf mu ops (i::rest) s acc Q τ=bindW ops[i]? (fun o=>WD P cf mu ops i [o] s acc (fun acc' s'=>WI P cf mu ops rest s' acc' Q .mk) .mk) .mk:=by
 simp only[WI,WD,evOpsI,evOpsD];cases ops[i]? with
 | none=>simp[bindW]
 | some o=>
   simp only[Ao];cases evWanted ops s o with
   | none=>simp[bindW]
   | some b=>
     simp only[];cases evOne P cf mu ops o s with
     | none=>simp[bindW]
     | some s1=>
       simp only[Ao];cases evOpsI P cf mu ops rest s1 with
       | none=>simp[bindW]
       | some q=>
         obtain⟨l,s2⟩:=q;simp only[Ao];cases (if b=true then footprint mu s.ev o s.h s1.h else none)<;>simp
def altW (o:Option (Nat×Nat×List Nat)) (X:Prop) (Y:Nat->Nat->List Nat->Prop) (_t:Tag2 X Y):Prop:=
 match o with
 | none=>X
 | some (p,q,ord)=>Y p q ord
theorem OE {X:Prop}{Y:Nat->Nat->List Nat->Prop} {τ}:altW none X Y τ=X:=rfl
theorem OD {p q:Nat}{ord:List Nat}{X:Prop}{Y:Nat->Nat->List Nat->Prop} {τ}:altW (some (p,q,ord)) X Y τ=Y p q ord:=rfl
theorem Km (H:List MB):heapEq H H=true:=by
 induction H with
 | nil=>rfl
 | cons x H ih=>simp[heapEq,MB.beq_refl,ih]
theorem IM:∀ t:Tm,tmEq t t=true
 | []=>rfl
 | (k,v)::t=>by simp[tmEq,AV.beq_refl,IM t]
theorem St.beq_refl (s:St):St.beq s s=true:=by simp[St.beq,IM,Km]
theorem AQ {s:St}{b:Bool}:(St.beq s s||b)=true:=by rw[St.beq_refl];rfl
theorem R2 {id:Nat}{os:List Oper}{s:St}{Q:EX->St->Prop} {τ}:W P cf it mu m (.region id ⟨os⟩ true) s Q τ =
  altW (m.al id) (dOk os .mk/\WD P cf mu os 0 os s [] (fun l s=>pairsOk ⟨os⟩ l=true/\Q .norm (dropSt (m.dd id) (actL (m.ra id) s))) .mk)
   (fun p q ord=>dOk os .mk/\altO ⟨os⟩ p q ord=true/\WD P cf mu os 0 os s [] (fun l s1=>pairsX ⟨os⟩ p q l=true /\
     WI P cf mu os ord s [] (fun l2 s2=>pairsX ⟨os⟩ q p l2=true/\(St.beq s1 s2||St.swp s.h.length s1 s2)=true/\Q .norm (dropSt (m.dd id) (actL (m.ra id) s1))) .mk) .mk) .mk:=by
 simp only[W,WD,WI,evCode,evRegion,if_true,Fg,dOk];cases m.al id with
 | none=>
   simp only[altW];cases evOpsD P cf mu os 0 os s with
   | none=>simp[bindW]
   | some q=>
     obtain⟨l,s'⟩:=q;simp only[Ao,nil_append];by_cases h1:drawOk ⟨os⟩=true<;>by_cases h2:pairsOk ⟨os⟩ l=true<;>simp[h1,h2,bindW]
 | some a=>
   obtain⟨p,q,ord⟩:=a;simp only[altW];cases evOpsD P cf mu os 0 os s with
   | none=>simp[bindW]
   | some x=>
     obtain⟨l,s1⟩:=x;simp only[Ao,nil_append];cases evOpsI P cf mu os ord s with
     | none=>simp[bindW]
     | some y=>
       obtain⟨l2,s2⟩:=y;simp only[Ao,nil_append];by_cases h1:drawOk ⟨os⟩=true<;>by_cases h2:altO ⟨os⟩ p q ord=true<;>by_cases h3:pairsX ⟨os⟩ p q l=true<;>by_cases h4:pairsX ⟨os⟩ q p l2=true<;>by_cases h5:(St.beq s1 s2||St.swp s.h.length s1 s2)=true<;>simp[h1,h2,h3,h4,h5,bindW]
theorem Rv {f n:Nat}:(cfgOf pol f n).al=pol.alts f:=rfl
mutual
def AV.plain:AV->Bool
 | .rf _ _ _ _ | .ms _ _ _ _ _ | .mpr _ | .yld _=>false
 | .sl t xs=>!t&&AV.plainL xs
 | .pt xs=>AV.plainL xs
 | .clo _ xs=>AV.plainL xs
 | .clb _ xs=>AV.plainL xs
 | .agg xs=>AV.plainL xs
 | .tup xs=>AV.plainL xs
 | .ifc _ x=>AV.plain x
 | _=>true
def AV.plainL:List AV->Bool
 | []=>true
 | x::xs=>AV.plain x&&AV.plainL xs
end
theorem Gh (l:List AV):AV.plainL l=true↔∀ x∈l,AV.plain x=true:=by
 induction l with
 | nil=>simp[AV.plainL]
 | cons a l ih=>simp[AV.plainL,ih]
mutual
theorem D2 (jump:List AV->List MB->Option (List AV×List MB)):∀(a:AV) (H:List MB),AV.plain a=true->fzA jump a H=some (a,H)
 | .sl t xs,H,h=>by
   simp only[AV.plain,and_eq_true,Bool.not_eq_true']at h;obtain⟨rfl,h2⟩:=h;simp only[fzA,A9 jump xs H h2]
 | .pt xs,H,h=>by simp only[AV.plain]at h;simp only[fzA,A9 jump xs H h]
 | .agg xs,H,h=>by simp only[AV.plain]at h;simp only[fzA,A9 jump xs H h]
 | .tup xs,H,h=>by simp only[AV.plain]at h;simp only[fzA,A9 jump xs H h]
 | .rf _ _ _ _,H,h=>by simp[AV.plain]at h
 | .ms _ _ _ _ _,H,h=>by simp[AV.plain]at h
 | .mpr _,H,h=>by simp[AV.plain]at h
 | .yld _,H,h=>by simp[AV.plain]at h
 | .top,H,h=>rfl
 | .int _ _,H,h=>rfl
 | .bool _,H,h=>rfl
 | .str _,H,h=>rfl
 | .nilp,H,h=>rfl
 | .nilf,H,h=>rfl
 | .nili,H,h=>rfl
 | .nilm,H,h=>rfl
 | .clo _ _,H,h=>rfl
 | .clb _ _,H,h=>rfl
 | .ifc _ _,H,h=>rfl
 | .psl _ _ _,H,h=>rfl
theorem A9 (jump:List AV->List MB->Option (List AV×List MB)):∀(l:List AV) (H:List MB),AV.plainL l=true->fzL jump l H=some (l,H)
 | [],H,_=>rfl
 | x::xs,H,h=>by
   simp only[AV.plainL,and_eq_true]at h;simp only[fzL,D2 jump x H h.1,A9 jump xs H h.2]
end
mutual
theorem AI (n:Nat):∀(a:AV),AV.plain a=true->AV.under n a=true
 | .sl t xs,h=>by
   simp only[AV.plain,and_eq_true]at h;simp only[AV.under,AD n xs h.2]
 | .pt xs,h=>by simp only[AV.plain]at h;simp only[AV.under,AD n xs h]
 | .agg xs,h=>by simp only[AV.plain]at h;simp only[AV.under,AD n xs h]
 | .tup xs,h=>by simp only[AV.plain]at h;simp only[AV.under,AD n xs h]
 | .clo _ xs,h=>by simp only[AV.plain]at h;simp only[AV.under,AD n xs h]
 | .clb _ xs,h=>by simp only[AV.plain]at h;simp only[AV.under,AD n xs h]
 | .ifc _ x,h=>by simp only[AV.plain]at h;simp only[AV.under,AI n x h]
 | .rf _ _ _ _,h=>by simp[AV.plain]at h
 | .ms _ _ _ _ _,h=>by simp[AV.plain]at h
 | .mpr _,h=>by simp[AV.plain]at h
 | .yld _,h=>by simp[AV.plain]at h
 | .psl _ _ _,h=>rfl
 | .top,h=>rfl
 | .int _ _,h=>rfl
 | .bool _,h=>rfl
 | .str _,h=>rfl
 | .nilp,h=>rfl
 | .nilf,h=>rfl
 | .nili,h=>rfl
 | .nilm,h=>rfl
theorem AD (n:Nat):∀(l:List AV),AV.plainL l=true->AV.underL n l=true
 | [],_=>rfl
 | x::xs,h=>by
   simp only[AV.plainL,and_eq_true]at h;simp only[AV.underL,AI n x h.1,AD n xs h.2,Bool.and_self]
end
theorem Ac {a:AV} (H:List MB) (h:AV.plain a=true):fz a H=some (a,H):=D2 _ a H h
theorem NY {l:List AV} (H:List MB) (h:AV.plainL l=true):fzs l H=some (l,H):=A9 _ l H h
theorem Fy (H K:List MB):keptOk 0 [] K=true:=by cases K<;>rfl
theorem MF {f:Nat}{args:List AV}{r:AV} (hp:pol.pure f=true) (ha:AV.plainL args=true) (hr:AV.plain r=true)
  (h:evBody P pol (call P pol) itL f args []=some (r,[])) (H:List MB):call P pol f args H=some (r,H):=by
 have hf:∀(l:List AV) (i:Nat),AV.plainL l=true->frzArgs pol f i l H=some (l,H):=by
  intro l
  induction l with
  | nil=>intro i _;rfl
  | cons x l ih=>
    intro i h;simp only[AV.plainL,and_eq_true]at h;simp only[frzArgs,Ac H h.1,ih (i+1) h.2];split<;>simp_all
 rw[BR];unfold evStep;rw[if_pos hp];simp only[hf args 0 ha,AD 0 args ha,if_true,h,rebase,AI 0 r hr]
theorem Jj {d:Nat}{b:Bool}{t:Tm}{X Y:Tm->Prop} {τ}:guardW (d,.bool b) true t X Y τ=splitB b (X (upd d (.bool true) t)) (Y (upd d (.bool false) t)) .mk:=by
 simp[Ct]
theorem Jk {d:Nat}{b:Bool}{t:Tm}{X Y:Tm->Prop} {τ}:guardW (d,.bool b) false t X Y τ=splitB b (Y (upd d (.bool true) t)) (X (upd d (.bool false) t)) .mk:=by
 simp[Ct]
theorem Oe {n:Nat}{t:Tm}{H:List MB}{i:Nat}{v:AV}:St.put ⟨n,t,H⟩ (some i) v=⟨n,if i<n then ins i v t else t,H⟩:=rfl
theorem Of {n:Nat}{t:Tm}{H:List MB}{v:AV}:St.put ⟨n,t,H⟩ none v=⟨n,t,H⟩:=rfl
theorem Rp {n:Nat}{t:Tm}{H:List MB}{i:Nat}:St.ev ⟨n,t,H⟩ (.tmp i)=lookD t i:=rfl
theorem Rq {n:Nat}{t:Tm}{H:List MB}{v:Value}:St.ev ⟨n,t,H⟩ (.const v)=ofK v:=rfl
theorem Qg {n:Nat}{t:Tm}{H:List MB}{f:Nat}:St.ev ⟨n,t,H⟩ (.func f)=.clo f []:=rfl
theorem QG {k:IntKind}{n:Int}:ofK (.int k n)=.int k n:=rfl
theorem Oo {b:Bool}:ofK (.bool b)=.bool b:=rfl
theorem QE {b:ByteArray}:ofK (.string b)=.str b:=rfl
theorem QH {l:List Value}:ofK (.agg ⟨l⟩)=if l.all Value.oneCell' = true then .agg (l.map ofC) else .top:=rfl
theorem QK {k:IntKind}{n:Int}:ofC (.int k n)=.int k n:=rfl
theorem Ot {b:Bool}:ofC (.bool b)=.bool b:=rfl
theorem QI {b:ByteArray}:ofC (.string b)=.str b:=rfl
theorem QJ:ofC (.slice none 0 0)=.sl true []:=rfl
theorem Oq:ofC (.pointer none)=.nilp:=rfl
theorem QD {k:IntKind}{n:Int}:Value.oneCell' (.int k n)=true:=rfl
theorem Ol {b:Bool}:Value.oneCell' (.bool b)=true:=rfl
theorem QB {b:ByteArray}:Value.oneCell' (.string b)=true:=rfl
theorem QC:Value.oneCell' (.slice none 0 0)=true:=rfl
theorem Oj:Value.oneCell' (.pointer none)=true:=rfl
theorem QF:ofK (.slice none 0 0)=.sl true []:=rfl
theorem CQ {f:Nat} (hb:∀ i,pol.byref f i=false) (H:List MB):∀(l:List AV) (i:Nat),AV.plainL l=true->frzArgs pol f i l H=some (l,H)
 | [],_,_=>rfl
 | x::l,i,h=>by
   simp only[AV.plainL,and_eq_true]at h;simp only[frzArgs,hb,false_eq_true,if_false,Ac H h.1,CQ hb H l (i+1) h.2]
def retK (P:Program) (rs:List ResultVar) (r:AV):EX->St->Prop
 | .exit _,_=>False
 | _,s=>bindW (evResults P s rs) (fun vs=>∃ H',fz (packRes vs) s.h=some (r,H')) .mk
theorem ND {rs r s}:retK P rs r .norm s=bindW (evResults P s rs) (fun vs=>∃ H',fz (packRes vs) s.h=some (r,H')) .mk:=rfl
theorem Ob {rs r s}:retK P rs r .ret s=bindW (evResults P s rs) (fun vs=>∃ H',fz (packRes vs) s.h=some (r,H')) .mk:=rfl
theorem fzEq {r r':AV}{H:List MB} (h:AV.plain r=true) (e:r=r'):(∃ H',fz r H=some (r',H')):=⟨H,e ▸ Ac H h⟩
theorem AR {f:Nat}{args:List AV}{r:AV}{fn:Func}{c:Code} (hf:P.funcs[f]?=some fn) (hc:fn.body=some c) (hn:(fn.name == "runtime.NumGoroutine")=false)
  (hp:pol.pure f=true) (he:pol.ext f=none) (hk:pol.keep f=false) (ho:pol.own f=false) (hb:∀ i,pol.byref f i=false)
  (ha:AV.plainL args=true) (hr:AV.plain r=true)
  (h:W P (call P pol) itL (pol.muts f) (cfgOf pol f 0) c ⟨args.length+(fn.ntmps-args.length),initT 0 args [],[]⟩ (retK P fn.results.toList r) .mk) (H:List MB) :
  call P pol f args H=some (r,H):=by
 refine MF hp ha hr ?_ H;obtain⟨⟨e,s⟩,hev,hk2⟩:=h;have fin:∀ {vs:List AV}{H':List MB},fz (packRes vs) s.h=some (r,H')->retPol pol f [] (packRes vs) s.h=some (r,[]):=by
  intro vs H' hz;unfold retPol;simp only[hk,ho,false_eq_true,if_false,hz,length_nil,AI 0 r hr,Fy [] H',and_self,if_true,List.take_zero]
 unfold evBody;simp only[he,hf,hc];rw[if_neg (by simpa using hn)];simp only[CQ hb [] args 0 ha,length_nil,hev];cases e with
 | exit id=>exact hk2.elim
 | norm=>
   obtain⟨vs,h1,H',h2⟩:=hk2;simp only[h1];exact fin h2
 | ret=>
   obtain⟨vs,h1,H',h2⟩:=hk2;simp only[h1];exact fin h2
theorem AN {m:Msk}{n k:Nat}{t t':Tm}{h h':List MB} (hz:m.acts=[]) (hg:m.gc=some n) (hc:keepT m.k t=t') (he:h.take n=h') (ht:AV.underL n (t'.map (·.2))=true) (hh:h'.all (MB.under n)=true) :
  prep m ⟨k,t,h⟩=⟨k,t',h'⟩:=by
 subst he;unfold prep prepG;simp only[hz,actL,hg,hc,ht,hh,and_self,if_true]
theorem O7 {d:Nat}{v:AV}{t:Tm}:look ((d,v)::t) d=some v:=by simp[look]
theorem NP {d:Nat}{v:AV}{t:Tm}:lookD ((d,v)::t) d=v:=by simp[lookD,look]
theorem Lm {k d:Nat}{v:AV}{t:Tm}:lookD ((k,v)::t) d=if k=d then v else lookD t d:=by
 by_cases h:k=d<;>simp[lookD,look,h]
theorem NO {d:Nat}:lookD [] d=.top:=rfl
theorem QV {d:Nat}{u v:AV}{t:Tm}:ins d v ((d,u)::t)=(d,v)::t:=by simp[ins]
theorem Po {d:Nat}{u v:AV}{t:Tm}:upd d v ((d,u)::t)=(d,v)::t:=by simp[upd]
theorem Oc {d:Nat}{u:AV}{t:Tm}:rem1 d ((d,u)::t)=t:=by simp[rem1]
theorem Nm {n:Nat}{l:List Nat}{t:Tm}{H:List MB}:dropSt l ⟨n,t,H⟩=⟨n,dropT l t,H⟩:=rfl
theorem Rt {f n:Nat}:(cfgOf pol f n).dd=pol.dead f:=rfl
theorem Rs {f n:Nat}:(cfgOf pol f n).ra=pol.racts f:=rfl
theorem Pj {s:St}:actL [] s=s:=rfl
theorem OG {a:SA}{l:List SA}{s:St}:actL (a::l) s=actL l (act1 s a):=rfl
theorem OL {d:Nat}{u v:AV}{t:Tm}:updT d v ((d,u)::t)=(d,v)::t:=by simp[updT]
theorem Ru {f n:Nat}:(cfgOf pol f n).bd=pol.bdead f:=rfl
theorem RI {b:Bool}{x y:Code}{s:St}{Q:EX->St->Prop} {τ}:W P cf it mu m (.cond (.const (.bool b)) x y) s Q τ=if b=true then W P cf it mu m x s Q .mk else W P cf it mu m y s Q .mk:=by
 have e:s.ev (.const (.bool b))=.bool b:=rfl;simp only[W,evCode,e];cases b<;>simp
end Go.Ev
namespace Go.Ev
open Go.RowKit Go.IntWalk
section
variable {a b:Int}
theorem Sf (h:a<b):decide (a<b)=true:=decide_eq_true h
theorem Sg (h:b<=a):decide (a<b)=false:=decide_eq_false (by omega)
theorem Sh (h:a<=b):decide (a<=b)=true:=decide_eq_true h
theorem Si (h:b<a):decide (a<=b)=false:=decide_eq_false (by omega)
theorem Sj (h:b<a):decide (a > b)=true:=decide_eq_true h
theorem Sk (h:a<=b):decide (a > b)=false:=decide_eq_false (by omega)
theorem Sl (h:b<=a):decide (a >= b)=true:=decide_eq_true h
theorem Sm (h:a<b):decide (a >= b)=false:=decide_eq_false (by omega)
theorem Sr (h:a=b):(a==b)=true:=by simp[h]
theorem Ss (h:a≠b):(a==b)=false:=by simp[h]
theorem Sp (h:a≠b):(a != b)=true:=by simp[h]
theorem Sq (h:a=b):(a != b)=false:=by simp[h]
theorem lt_T (h:a<b):(a<b)=True:=by simp[h]
theorem le_T (h:a<=b):(a<=b)=True:=by simp[h]
end
theorem SS {a b:Nat} (h:a<=b):(a<=b)=True:=by simp[h]
theorem ST {a b:Nat} (h:b<a):(a<=b)=False:=by simp;omega
theorem AE {a:Nat} (h:a<=4611686018427387904):IntKind.i64.wrap ((a:Int)+1)=((a+1:Nat):Int):=by rw[i64_in];rfl;omega
theorem AC {a:Nat} (h:a<=4611686018427387904):IntKind.i64.wrap (((a+1:Nat):Int)-1)=(a:Int):=by rw[i64_in]<;>omega
theorem AB {a:Nat} (h:0<a/\a<=4611686018427387904):IntKind.i64.wrap ((a:Int)-1)=((a-1:Nat):Int):=by rw[i64_in]<;>omega
theorem AA {a b:Nat} (h:b<=a/\a<=4611686018427387904):IntKind.i64.wrap ((a:Int)-(b:Int))=((a-b:Nat):Int):=by rw[i64_in]<;>omega
section
variable {α:Type} (a0 a1 a2 a3 a4 a5 a6 a7 a8 a9 a10 a11 a12 a13 a14 a15:α) (t:List α) (n:Nat)
theorem Ls:(a0::a1::a2::a3::a4::a5::a6::a7::a8::a9::a10::a11::a12::a13::a14::a15::t)[n+16]?=t[n]?:=by simp
end
section
variable {α:Type} (a0 a1 a2 a3:α) (t:List α) (n:Nat)
theorem SL (v:α):(a0::a1::a2::a3::t).set (n+4) v=a0::a1::a2::a3::t.set n v:=rfl
theorem NW:(a0::a1::a2::a3::t)[n+4]?=t[n]?:=by simp
theorem SP (a v:α):(a::t).set 0 v=v::t:=rfl
theorem SO (a b v:α):(a::b::t).set 1 v=a::v::t:=rfl
theorem SN (a b c v:α):(a::b::c::t).set 2 v=a::b::v::t:=rfl
theorem SM (a b c d v:α):(a::b::c::d::t).set 3 v=a::b::c::v::t:=rfl
end
variable {P:Program}{pol:Pol}
theorem AX {f:Nat}{args as:List AV}{H H1:List MB}{r:AV×List MB}{fn:Func}{c:Code} (hf:P.funcs[f]?=some fn) (hc:fn.body=some c) (hn:(fn.name == "runtime.NumGoroutine")=false)
  (hp:pol.pure f=false) (he:pol.ext f=none) (ha:frzArgs pol f 0 args H=some (as,H1))
  (h:W P (call P pol) itL (pol.muts f) (cfgOf pol f H1.length) c ⟨as.length+(fn.ntmps-as.length),initT 0 as [],H1⟩ (endK P pol f H1 fn.results.toList r) .mk) (hy:f≠yldF:=by decide) :
  call P pol f args H=some r:=by
 rw[BR];unfold evStep;rw[if_neg (by simp[hp]),if_neg hy];refine I7 he hf hc hn ?_;rw[ha,Ao];exact h
theorem Am {f:Nat}{H1 H H':List MB}{r:AV} (hk:pol.keep f=false) (ho:pol.own f=false) (hr:AV.plain r=true) (h:keptOk H1.length H1 H=true) (hh:H.take H1.length=H') :
  retPol pol f H1 r H=some (r,H'):=by
 unfold retPol;simp only[hk,ho,false_eq_true,if_false,Ac H hr,AI _ r hr,h,and_self,if_true,hh]
theorem Jp {n id k tot off len z:Nat}{H H':List MB}{els ys:List AV} (hr:getRow H id=some (k,els,z)) (h1:els.length=tot) (h2:off+len<=tot)
  (hp:fzL (fzJ n) ((els.drop off).take len) (mark H id (off+len))=some (ys,H')) :
  fzA (fzJ (n+1)) (.ms id k tot off len) H=some (.sl false ys,H'):=by
 simp only[fzA,hr,h1,h2,and_self,if_true,fzJ,hp]
theorem Qf {j:List AV->List MB->Option (List AV×List MB)}{xs:List AV}{H:List MB}:fzA j (.agg xs) H=match fzL j xs H with
 | some (ys,H')=>some (.agg ys,H')
 | none=>none:=rfl
theorem Mk {j:List AV->List MB->Option (List AV×List MB)}{k:IntKind}{n:Int}{H:List MB}:fzA j (.int k n) H=some (.int k n,H):=rfl
end Go.Ev
namespace Go.Ev
open Go.RowKit Go.IntWalk
variable {P:Program}{pol:Pol}
theorem AW (n:Nat) (xs ys:List AV):AV.underL n (xs++ys)=(AV.underL n xs&&AV.underL n ys):=by
 induction xs with
 | nil=>simp[AV.underL]
 | cons a xs ih=>simp[AV.underL,ih,Bool.and_assoc]
theorem toList_some {α:Type} (a:α):(some a).toList=[a]:=rfl
def retE (P:Program) (rs:List ResultVar) (Post:AV->Prop):EX->St->Prop
 | .exit _,_=>False
 | _,s=>bindW (evResults P s rs) (fun vs=>∃ r,Post r/\∃ H',fz (packRes vs) s.h=some (r,H')) .mk
theorem Ax {rs}{Post:AV->Prop} {s}:retE P rs Post .norm s=bindW (evResults P s rs) (fun vs=>∃ r,Post r/\∃ H',fz (packRes vs) s.h=some (r,H')) .mk:=rfl
theorem A8 {rs}{Post:AV->Prop} {s}:retE P rs Post .ret s=bindW (evResults P s rs) (fun vs=>∃ r,Post r/\∃ H',fz (packRes vs) s.h=some (r,H')) .mk:=rfl
end Go.Ev
namespace Go.Ev
open Go.RowKit Go.IntWalk
variable {P:Program}{pol:Pol}
end Go.Ev
namespace Go.Ev
open Go.RowKit Go.IntWalk
variable {P:Program}{pol:Pol}
theorem Aj (x:MB) (l l':List MB):sameAt 0 (x::l) (x::l')=true:=by simp[sameAt,MB.beq_refl]
theorem Aq (x y x':MB) (l l':List MB):sameAt 1 (x::y::l) (x'::y::l')=true:=by simp[sameAt,MB.beq_refl]
theorem Ag (x y z x' y':MB) (l l':List MB):sameAt 2 (x::y::z::l) (x'::y'::z::l')=true:=by simp[sameAt,MB.beq_refl]
theorem Ak (x y z u x' y' z':MB) (l l':List MB):sameAt 3 (x::y::z::u::l) (x'::y'::z'::u::l')=true:=by simp[sameAt,MB.beq_refl]
theorem Al (x y z u v x' y' z' u':MB) (l l':List MB):sameAt 4 (x::y::z::u::v::l) (x'::y'::z'::u'::v::l')=true:=by simp[sameAt,MB.beq_refl]
theorem Ae {n b:Nat} (h:n<=4000000000) (hb:b<=8000):roomFor n b=true:=by
 have:n*b<=4000000000*8000:=Nat.mul_le_mul h hb;simp[roomFor];omega
theorem take_len {α:Type}{l:List α}{n:Nat} (h:l.length=n):l.take n=l:=take_of_length_le (Nat.le_of_eq h)
theorem Jo {n id k tot z:Nat}{H:List MB}{els:List AV} (hr:getRow H id=some (k,els,z)) (h1:els.length=tot) (hp:AV.plainL els=true) :
  fzA (fzJ (n+1)) (.ms id k tot 0 tot) H=some (.sl false els,mark H id tot):=by
 have:=Jp (n:=n) (off:=0) (len:=tot) (ys:=els) (H':=mark H id (0+tot)) hr h1 (by omega) (by rw[drop_zero,take_len h1];exact A9 _ _ _ hp)
 rwa [Nat.zero_add]at this
theorem Az {id k tot z:Nat}{H:List MB}{els:List AV} (hr:getRow H id=some (k,els,z)) (h1:els.length=tot) (hp:AV.plainL els=true) :
 fz (.ms id k tot 0 tot) H=some (.sl false els,mark H id tot):=Jo hr h1 hp
theorem PH {n id k tot len z:Nat}{H:List MB}{els:List AV} (hr:getRow H id=some (k,els,z)) (h1:els.length=tot) (h2:len<=tot) (hp:AV.plainL (els.take len)=true) :
  fzA (fzJ (n+1)) (.ms id k tot 0 len) H=some (.sl false (els.take len),mark H id len):=by
 have:=Jp (n:=n) (off:=0) (len:=len) (ys:=els.take len) (H':=mark H id (0+len)) hr h1 (by omega) (by rw[drop_zero];exact A9 _ _ _ hp)
 rwa [Nat.zero_add]at this
theorem F0 {id tot i j k z:Nat}{H:List MB}{els:List AV}{x:AV} (hr:getRow H id=some (k,els,z)) (h1:els.length=tot) (hx:els[i]?=some x) (hp:AV.plainL (x.cells.drop j)=true) :
  fz (.rf id tot i j) H=some (.pt (x.cells.drop j),mark H id (i+1)):=by
 simp only[fz,fzA,hr,h1,if_true,hx,fzJ,A9 _ _ _ hp]
theorem BV {m:Msk}{n k:Nat}{t:Tm}{h:List MB}{s:St} (hz:m.acts=[]) (hg:m.gc=some n) (ht:AV.underL n ((keepT m.k t).map (·.2))=true) (hh:(h.take n).all (MB.under n)=true)
  (he:(⟨k,keepT m.k t,h.take n⟩:St)=s):prep m ⟨k,t,h⟩=s:=by
 subst he;exact AN hz hg rfl rfl ht hh
theorem GL {j:List AV->List MB->Option (List AV×List MB)}{xs:List AV}{H:List MB}:fzA j (.tup xs) H=match fzL j xs H with
 | some (ys,H')=>some (.tup ys,H')
 | none=>none:=rfl
theorem HA {id k tot z:Nat}{e:Int}{H:List MB}{els:List AV} (hr:getRow H id=some (k,els,z)) (h1:els.length=tot) (hp:AV.plainL els=true) :
  ∃ H',fz (.tup [.ms id k tot 0 tot,.int .i64 e]) H=some (.tup [.sl false els,.int .i64 e],H'):=by
 refine⟨mark H id tot,?_⟩;have h2:fzA (fzJ 6) (.ms id k tot 0 tot) H=some (.sl false els,mark H id tot):=Jo (n:=5) hr h1 hp;simp only[fz,GL,fzL,h2,Mk]
theorem Lr {α:Type} (n:Nat) (l:List α):(l.take (n+1)).head?=l.head?:=by cases l<;>simp
variable {P:Program}{pol:Pol}
def endE (P:Program) (pol:Pol) (f:Nat) (H1:List MB) (rs:List ResultVar) (Post:AV×List MB->Prop):EX->St->Prop
 | .exit _,_=>False
 | _,s=>bindW (evResults P s rs) (fun vs=>∃ r,Post r/\retPol pol f H1 (packRes vs) s.h=some r) .mk
theorem Nk {f H1 rs}{Post:AV×List MB->Prop} {s}:endE P pol f H1 rs Post .norm s=bindW (evResults P s rs) (fun vs=>∃ r,Post r/\retPol pol f H1 (packRes vs) s.h=some r) .mk:=rfl
theorem PO {f H1 rs}{Post:AV×List MB->Prop} {s}:endE P pol f H1 rs Post .ret s=bindW (evResults P s rs) (fun vs=>∃ r,Post r/\retPol pol f H1 (packRes vs) s.h=some r) .mk:=rfl
theorem ME {f:Nat}{args l:List AV}{H H1:List MB}{Post:AV×List MB->Prop}{fn:Func}{c:Code} (hf:P.funcs[f]?=some fn) (hc:fn.body=some c) (hn:(fn.name == "runtime.NumGoroutine")=false)
  (hp:pol.pure f=false) (he:pol.ext f=none) (ha:frzArgs pol f 0 args H=some (l,H1))
  (h:W P (call P pol) itL (pol.muts f) (cfgOf pol f H1.length) c ⟨l.length+(fn.ntmps-l.length),initT 0 l [],H1⟩ (endE P pol f H1 fn.results.toList Post) .mk) (hy:f≠yldF:=by decide) :
  ∃ r,Post r/\call P pol f args H=some r:=by
 obtain⟨⟨e,s⟩,h1,h2⟩:=h;have key:∃ r,Post r/\endK P pol f H1 fn.results.toList r e s:=by
  cases e with
  | exit id=>exact h2.elim
  | norm=>
    obtain⟨vs,a,r,b,c⟩:=h2;exact⟨r,b,vs,a,c⟩
  | ret=>
    obtain⟨vs,a,r,b,c⟩:=h2;exact⟨r,b,vs,a,c⟩
 obtain⟨r,hP,hret⟩:=key;exact⟨r,hP,AX hf hc hn hp he ha ⟨(e,s),h1,hret⟩ hy⟩
def mixOk (pol:Pol) (f:Nat):Nat->List AV->Bool
 | _,[]=>true
 | i,x::l=>(pol.byref f i||AV.plain x)&&mixOk pol f (i+1) l
theorem AT {f:Nat} (H:List MB):∀(l:List AV) (i:Nat),mixOk pol f i l=true->frzArgs pol f i l H=some (l,H)
 | [],_,_=>rfl
 | x::l,i,h=>by
   simp only[mixOk,and_eq_true,Bool.or_eq_true]at h;have h2:=AT H l (i+1) h.2;cases hb:pol.byref f i with
   | true=>simp[frzArgs,hb,h2]
   | false=>
     have:AV.plain x=true:=by simpa [hb] using h.1
     simp[frzArgs,hb,h2,Ac H this]
end Go.Ev
namespace Go.Ev
open Go.RowKit Go.IntWalk
variable {P:Program}{pol:Pol}
inductive KeepL (j:List AV->List MB->Option (List AV×List MB)):List AV->List AV->Prop where
 | nil:KeepL j [] []
 | cons {x y:AV}{a b:List AV} (h:∀ H,fzA j x H=some (y,H)) (t:KeepL j a b):KeepL j (x::a) (y::b)
theorem KeepL.fz {j:List AV->List MB->Option (List AV×List MB)}{a b:List AV} (h:KeepL j a b) (H:List MB):fzL j a H=some (b,H):=by
 induction h with
 | nil=>rfl
 | cons h _ ih=>simp only[fzL,h,ih]
theorem KeepL.append {j:List AV->List MB->Option (List AV×List MB)}{a b c d:List AV} (h:KeepL j a b) (h2:KeepL j c d):KeepL j (a++c) (b++d):=by
 induction h with
 | nil=>exact h2
 | cons h _ ih=>exact .cons h ih
theorem KeepL.plain {j:List AV->List MB->Option (List AV×List MB)}:∀ {a:List AV},AV.plainL a=true->KeepL j a a
 | [],_=>.nil
 | x::a,h=>by
   simp only[AV.plainL,and_eq_true]at h;exact .cons (fun H=>D2 j x H h.1) (KeepL.plain h.2)
theorem KeepL.one {j:List AV->List MB->Option (List AV×List MB)}{x y:AV} (h:∀ H,fzA j x H=some (y,H)):KeepL j [x] [y]:=.cons h .nil
theorem KeepL.len {j:List AV->List MB->Option (List AV×List MB)}{a b:List AV} (h:KeepL j a b):b.length=a.length:=by
 induction h with
 | nil=>rfl
 | cons _ _ ih=>simp[ih]
theorem N6 {f k n:Nat}{args els:List AV}{fn:Func}{c:Code} (hf:P.funcs[f]?=some fn) (hc:fn.body=some c) (hn:(fn.name == "runtime.NumGoroutine")=false)
  (hp:pol.pure f=true) (he:pol.ext f=none) (hb:∀ i,pol.byref f i=false) (ha:AV.plainL args=true) (hels:AV.plainL els=true)
  (h:W P (call P pol) itL (pol.muts f) (cfgOf pol f 0) c ⟨args.length+(fn.ntmps-args.length),initT 0 args [],[]⟩ (endK P pol f [] fn.results.toList (.ms 0 k n 0 n,[.row k els 0])) .mk) (H:List MB) :
  call P pol f args H=some (.ms H.length k n 0 n,H++[.row k els 0]):=by
 rw[BR];unfold evStep;rw[if_pos hp];simp only[CQ hb H args 0 ha,AD 0 args ha,if_true];have hbody:evBody P pol (call P pol) itL f args []=some (.ms 0 k n 0 n,[.row k els 0]):=by
  refine I7 he hf hc hn ?_;rw[CQ hb [] args 0 ha,Ao];exact h
 rw[hbody];simp only[rebase,AD 0 els hels,if_true]
theorem Lg {f id k n z:Nat}{els xs:List AV}{H H':List MB} (hk:pol.keep f=false) (ho:pol.own f=true) (hr:getRow H id=some (k,els,z)) (hl:els.length=n) (hz:fzs els H=some (xs,H')) (hr':getRow H' id=some (k,els,0))
  (hx:AV.plainL xs=true) (hxl:xs.length=n):retPol pol f [] (.ms id k n 0 n) H=some (.ms 0 k n 0 n,[.row k xs 0]):=by
 unfold retPol;simp only[hk,ho,false_eq_true,if_false,if_true,hr];rw[if_pos ⟨Nat.zero_le _,hl,trivial,by omega⟩];have ht:(els.drop 0).take n=els:=by rw[drop_zero];exact take_of_length_le (Nat.le_of_eq hl)
 simp only[ht,hz,hr',length_nil];rw[if_pos ⟨AD 0 xs hx,Fy [] H',hxl,Nat.zero_le _⟩];simp
theorem Ai {H:List MB}{sT xT e k by_ id n z:Nat}{ze x:AV}{els ys:List AV} (he:tyElem P sT=some e) (hxT:tyNotInt P xT=true) (hk:tySz P e=some k) (hby:tyBytes P e=some by_) (hze:tyZero P e=some ze) (hzl:ze.cells.length=k) (hk0:0<k)
  (hs:srcElems P H e x=some ys) (hw:ys.all (fun y=>decide (y.cells.length=k)&&y.cells.all AV.ok)=true) (hr:getRow H id=some (k,els,z)) (hl:els.length=n) (hz:z<=n) (hroom:roomFor (n+ys.length) by_=true) :
  evAppend P H sT xT (.ms id k n 0 n) x=some (.ms id k (n+ys.length) 0 (n+ys.length),H.set id (.row k (els++ys) z)):=by
 unfold evAppend;simp only[he,hxT,hk,hby,hze,hs];rw[if_pos ⟨hw,hk0,hzl⟩];simp only[hr];rw[if_pos ⟨hl,trivial,trivial,by omega⟩];have hid:=(List.getElem?_eq_some_iff.1 (BF hr)).1;cases ys with
 | nil=>
   simp only[length_nil,Nat.add_zero,List.append_nil];have:H.set id (.row k els z)=H:=by
    apply List.ext_getElem?;intro q;by_cases e:id=q
    ·subst e;rw[List.getElem?_set_self hid,BF hr]
    ·rw[List.getElem?_set_ne e]
   rw[this]
 | cons y ys=>
   simp only[];rw[if_pos ⟨by omega,hroom⟩,if_neg (by simp)];have ht:els.take (0+n)=els:=take_of_length_le (by omega);rw[ht];simp
end Go.Ev
namespace Go.Ev
open Go.RowKit
variable {P:Program}{pol:Pol}
def findRF:Code->List (Code×Code)
 | .seq a b=>findRF a++findRF b
 | .cond _ a b=>findRF a++findRF b
 | .block _ b=>findRF b
 | .loop b=>findRF b
 | .scope b=>findRF b
 | .rangeFunc _ _ a b=>[(a,b)]
 | _=>[]
def rfOf (P:Program) (f:Nat):Code×Code:=
 match P.funcs[f]? with
 | some fn=>match fn.body with
   | some c=>(findRF c).headD (.skip,.skip)
   | none=>(.skip,.skip)
 | none=>(.skip,.skip)
theorem ML {cf:CF}{it:It}{mu:List Nat}{m:Cfg}{g f h n:Nat}{cs:List AV}{ps:Array Tmp}{asg b:Code}{t:Tm}{H H':List MB}{r:AV}{e:EX}{s':St}{Q:EX->St->Prop} {τ} (mk:Option (List Nat)) (hf:m.rf=some f) (hg:look t g=some (.clo h cs)) (hk:(m.lp (loopId b)).k=mk)
  (hne:h≠yldF) (hc:cf h (.yld H.length::cs) (H++[.lp .ready f n (keepT mk t) ps.toList (asg,b)])=some (r,H')) (he:endLp H' H.length ⟨n,t,H⟩=some (e,s')) (hq:Q e s'):W P cf it mu m (.rangeFunc (.tmp g) ps asg b) ⟨n,t,H⟩ Q τ:=by
 refine⟨(e,s'),?_,hq⟩;have hv:St.ev ⟨n,t,H⟩ (.tmp g)=.clo h cs:=by
  show lookD t g=_;unfold lookD;rw[hg]
 simp only[evCode,hf,hv,hk,cfn,if_neg hne,hc,he]
def rdK (P:Program) (pol:Pol) (N id:Nat) (f n:Nat) (t:Tm) (ps:List Nat) (c:Code×Code) (cb:Code) (r:AV×List MB):EX->St->Prop
 | .norm,s1=>bindW (beginRd id s1 f n t ps c) (fun s2=>W P (call P pol) itL (pol.muts f) ⟨none,mskOf (pol.mask f) (pol.gc f) (pol.acts f) N,pol.dead f,pol.racts f,pol.bdead f,pol.alts f⟩ cb s2 (fun e s'=>endRd id e s' f n t ps c=some r) .mk) .mk
 | _,_=>False
theorem KU {N id f n:Nat}{t:Tm}{ps:List Nat}{c:Code×Code}{cb:Code}{r:AV×List MB}{s1:St}:rdK P pol N id f n t ps c cb r .norm s1=bindW (beginRd id s1 f n t ps c) (fun s2=>W P (call P pol) itL (pol.muts f) ⟨none,mskOf (pol.mask f) (pol.gc f) (pol.acts f) N,pol.dead f,pol.racts f,pol.bdead f,pol.alts f⟩ cb s2 (fun e s'=>endRd id e s' f n t ps c=some r) .mk) .mk:=rfl
theorem Hh {id f n:Nat}{as:List AV}{H:List MB}{t:Tm}{ps:List Nat}{c:Code×Code}{s:St}{r:AV×List MB} (hp:pol.pure yldF=false) (hm:H[id]?=some (.lp .ready f n t ps c)) (hb:bindPs ps as ⟨n,t,H⟩=some s)
  {ca cb:Code} (ha:c.1=ca) (hcb:c.2=cb) (h:W P (call P pol) itL (pol.muts f) ⟨none,mskOf (pol.mask f) (pol.gc f) (pol.acts f) H.length,pol.dead f,pol.racts f,pol.bdead f,pol.alts f⟩ ca s (rdK P pol H.length id f n t ps c cb r) .mk):call P pol yldF (.yld id::as) H=some r:=by
 subst ha;subst hcb;obtain⟨⟨e,s1⟩,h1,h2⟩:=h;cases e with
 | exit i=>exact h2.elim
 | ret=>exact h2.elim
 | norm=>
   obtain⟨s2,g1,⟨e',s'⟩,g2,g3⟩:=h2;rw[BR];unfold evStep;rw[if_neg (by simp[hp]),if_pos rfl];unfold evYield;simp only[hm,hb];have e1:({ cfgOf pol f H.length with rf:=none }:Cfg)=⟨none,mskOf (pol.mask f) (pol.gc f) (pol.acts f) H.length,pol.dead f,pol.racts f,pol.bdead f,pol.alts f⟩:=rfl;simp only[e1,h1,g1,g2];exact g3
theorem HT {id f n:Nat}{t:Tm}{ps:List Nat}{c:Code×Code}{s:St} (h:s.h[id]?=some (.lp .busy f n t ps c)):endRd id .norm s f n t ps c=some (.bool true,s.h.set id (.lp .ready f n t ps c)):=by
 unfold endRd;simp only[h,MB.beqT_refl,Cx,and_self,if_true]
theorem HU {id f n:Nat}{t:Tm}{ps:List Nat}{c:Code×Code}{s:St}{H:List MB} (h:H[id]?=some (.lp .ready f n t ps c)):endLp H id s=some (.norm,⟨s.n,s.t,H.set id (.lp .over f n [] ps c)⟩):=by
 unfold endLp;simp only[h]
end Go.Ev
namespace Go.Ev
open Go.RowKit
def cloneOps0 (T:TypeId) (p:String):Array Oper:=#[⟨some 2,.assign (.const (.slice none 0 0)),T,p,#[],none⟩]
def cloneOps1 (T B:TypeId) (p:String):Array Oper:=#[⟨some 3,.move (.tmp 0),T,p,#[],none⟩,⟨some 4,.binOp .eql T (.tmp 3) (.const (.slice none 0 0)) T,B,p,#[⟨0,.data⟩],none⟩]
def cloneOps3 (T:TypeId) (p:String):Array Oper:=#[⟨some 5,.buildSlice T 0 #[],T,p,#[],none⟩,⟨some 6,.move (.tmp 0),T,p,#[],none⟩,
 ⟨some 7,.call ⟨.builtin .append,#[.tmp 5,.tmp 6],#[T,T]⟩,T,p,#[⟨0,.data⟩,⟨1,.data⟩],none⟩,
 ⟨some 2,.assign (.tmp 7),T,p,#[⟨2,.data⟩,⟨2,.chain⟩,⟨0,.phase⟩,⟨1,.phase⟩,⟨2,.phase⟩],none⟩]
def cloneCode (T B:TypeId) (p0 p1 p2 p3:String):Code:=
 (Code.region 0 (cloneOps0 T p0) false).seq (((Code.region 1 (cloneOps1 T B p1) false).seq (Code.cond (.tmp 4) ((Code.region 2 (cloneOps0 T p2) false).seq Code.ret) Code.skip)).seq ((Code.region 3 (cloneOps3 T p3) false).seq Code.ret))
variable {P:Program}
theorem L4 (d:Nat) {T e:TypeId} (hu:P.underlying T=some (.slice e)) (a:Option Addr) (l c:Nat) (w:World) :
  (Op.equalIn (d+1) T (.slice a l c) (.slice none 0 0)).run P w=.ok a.isNone w:=by
 cases a<;>simp[Op.equalIn,run_underlying hu]
theorem BO (n:Nat) (K:List MB):∀ H:List MB,keptOk n H (H++K)=true
 | []=>by cases K<;>rfl
 | x::H=>by simp[keptOk,MB.beq_refl,BO n K H]
def cloneExt (k by_:Nat) (a:List AV) (H:List MB):Option (AV×List MB):=
 match a with
 | [x]=>match elemsOf H x with
   | some xs=>if(xs.all fun y=>decide (y.cells.length=k)&&y.cells.all AV.ok)=true/\roomFor xs.length by_=true/\AV.plainL xs=true then
      (match H,xs with
      | [],y::ys=>some (.ms 0 k (ys.length+1) 0 (ys.length+1),[.row k (y::ys) 0])
      | _,_=>some (.sl false xs,H)) else none
   | none=>none
 | _=>none
def polC:Pol:={ byref:=fun _ _=>false,keep:=fun _=>false,own:=fun _=>false,mask:=fun _ _=>none,dead:=fun _ _=>[],bdead:=fun _ _=>[],gc:=fun _ _=>none,muts:=fun _=>[],pure:=fun _=>false,ext:=fun _=>none,acts:=fun _ _=>[],racts:=fun _ _=>[],alts:=fun _ _=>none }
theorem P3 (f:Nat) (H:List MB):retPol polC f H (.sl true []) H=some (.sl false [],H):=by
 have h1:fz (.sl true []) H=some (.sl false [],H):=rfl;have h2:=BO H.length [] H;rw[List.append_nil]at h2;unfold retPol;simp only[polC,false_eq_true,if_false,h1,AV.under,AV.underL,h2,and_self,if_true,List.take_length]
theorem Pz (f k n:Nat) (H:List MB) (xs:List AV) (hn:n=xs.length) (hp:AV.plainL xs=true):retPol polC f H (.ms H.length k n 0 n) (H++[.row k xs 0])=some (.sl false xs,H):=by
 subst hn;have hr:getRow (H++[.row k xs 0]) H.length=some (k,xs,0):=by simp[getRow]
 have hm:mark (H++[.row k xs 0]) H.length (0+xs.length)=H++[.row k xs (max 0 (0+xs.length))]:=by
  unfold mark;rw[hr];simp
 have h1:fz (.ms H.length k xs.length 0 xs.length) (H++[.row k xs 0])=some (.sl false xs,H++[.row k xs (max 0 (0+xs.length))]):=by
  unfold fz;refine Jp hr rfl (by omega) ?_;rw[drop_zero,List.take_length,hm];exact A9 _ _ _ hp
 have h2:=BO H.length [.row k xs (max 0 (0+xs.length))] H;unfold retPol;simp only[polC,false_eq_true,if_false,h1,AV.under,AD H.length xs hp,h2,and_self,if_true];simp
variable {B0:Nat}{w0:Base}{w:World}{I:Imm}{L:List Lay}
theorem J6:CfOk P (fun _ _ _=>none):=⟨fun _ _ _ _ _ _ h=>(by cases h),fun _ _ _ _ h=>(by cases h)⟩
theorem IH {ops:Array Oper}{Q:Exit->Act->World->Prop}{o:Oper}{rest:List Oper}{a:Act}{w:World} (hg:o.guard=none) (h:o.wpIn (wd none) 0 P a w (wpL none P ops Q rest) Q):wpL none P ops Q (o::rest) a w:=by
 unfold wpL;rw[if_pos (by simp[Region.wanted,hg])];exact h
theorem P1 (f k:Nat) (y:AV) (ys:List AV) (hp:AV.plainL (y::ys)=true) :
  retPol { polC with own:=fun _=>true } f [] (.ms 0 k (ys.length+1) 0 (ys.length+1)) [.row k (y::ys) 0]=some (.ms 0 k (ys.length+1) 0 (ys.length+1),[.row k (y::ys) 0]):=by
 have h1:fzs (y::ys) [.row k (y::ys) 0]=some (y::ys,[.row k (y::ys) 0]):=A9 _ _ _ hp;have h2:=AD 0 (y::ys) hp;have h3:∀ K,keptOk 0 [] K=true:=fun K=>by cases K<;>rfl
 unfold retPol;simp only[polC,false_eq_true,if_false,if_true,getRow,List.getElem?_cons_zero,length_nil,Nat.le_refl,length_cons,Nat.zero_add,and_self,drop_zero];rw[take_of_length_le (by simp)];simp only[h1,h2,h3,length_cons,Nat.zero_le,and_self,if_true,Nat.sub_self];simp
theorem Ha (pol:Pol) {f:Nat}{fn:Func}{T B e k by_:Nat}{p0 p1 p2 p3:String}{ze:AV} (hf:P.funcs[f]?=some fn) (hc:fn.body=some (cloneCode T B p0 p1 p2 p3))
  (hn:(fn.name == "runtime.NumGoroutine")=false) (hnt:fn.ntmps=8) (hres:fn.results.toList=[.tmp 2]) (hu:P.underlying T=some (.slice e)) (hs:tySz P e=some k) (hk:0<k)
  (hby:tyBytes P e=some by_) (hz:tyZero P e=some ze) (hzl:ze.cells.length=k) (hzo:ze.cells.all AV.ok=true) {x:AV}{H H':List MB}{r:AV}{xs:List AV} (hxs:elemsOf H x=some xs)
  (c1:(xs.all fun y=>decide (y.cells.length=k)&&y.cells.all AV.ok)=true) (c2:roomFor xs.length by_=true)
  (hA:xs=[]->retPol pol f H (.sl true []) H=some (r,H')) (hB:∀ y ys,xs=y::ys->retPol pol f H (.ms H.length k (ys.length+1) 0 (ys.length+1)) (H++[.row k (y::ys) 0])=some (r,H')):CallSound P f [x] H r H':=by
 refine⟨fun us w=>?_,fun B0 w0 w I L us hi hus=>?_⟩
 ·unfold callFunc;simp only[Sem.run_bind,run_program,Result.andThen_ok,hf];rw[if_neg (by simpa using hn),if_neg (by simp[hc])];rfl
 ·have hlen:us.size=1:=hus.1;refine calls_of_wp hf hc ?_;have hs0:StOk B0 ⟨w0.w,w0.I,true⟩ I L ⟨8,[(0,x)],H⟩ { tmps:=us++Array.replicate (fn.ntmps-us.size) undef,defers:=[] } w:=by
   refine⟨I,L,hi.fx true,.refl I L,.nil,by simp[hlen,hnt],List.pairwise_singleton _ _,fun q hq=>?_⟩;rw[List.mem_singleton.1 hq];refine⟨by simp,?_⟩;have h0:=hus.2 0 x rfl;have e1:(us++Array.replicate (fn.ntmps-us.size) undef).getD 0 undef=us.getD 0 undef:=by
    have hlt2:0<us.size:=by omega
    simp only[Array.getD_eq_getD_getElem?,Array.getElem?_append_left hlt2]
   rw[e1];exact h0
  have fin:∀ {v:AV}{K:List MB}{s':St}{a':Act}{w':World},StOk B0 ⟨w0.w,w0.I,true⟩ I L s' a' w'->look s'.t 2=some v->s'.h=K->retPol pol f H v K=some (r,H') ->
    bodyPost P fn (fun e w'=>∃ v I' L',e=.returned v/\Inv B0 w0 I' H' L' w'/\Ext I L I' L'/\Rep I' L' r v) .ret a' w':=by
   rintro v K s' a' w' hst hv rfl hret;have b3:=hst.defers rfl;obtain⟨I2,L2,b1,b2,_,b4⟩:=hst;obtain⟨u,g1,g2⟩:=EC (fn:=fn) (P:=P) (vs:=[v]) b1 b4 (by rw[hres];simp only[evResults,evResult,hv]);obtain⟨I3,L3,d1,d2,d3⟩:=Ep (pol:=pol) hi b1.unfx b2 g2 hret;exact⟨b3,u,g1,u,I3,L3,rfl,d1,d2,d3⟩
  refine wp_seq ?_;refine Cq (CT none (mu:=[]) J6 _ (s':=⟨8,[(2,.sl true []),(0,x)],H⟩) (by rfl) hs0 (fun a1 w1 hs1=>?_));refine wp_seq ?_;refine wp_seq ?_;refine Cq ?_
  have hnil:∀(a2:Act) (w2:World),StOk B0 ⟨w0.w,w0.I,true⟩ I L ⟨8,[(3,x),(2,.sl true []),(0,x)],H⟩ a2 w2 ->
    ∃ b,(execOp a2.eval (⟨some 4,.binOp .eql T (.tmp 3) (.const (.slice none 0 0)) T,B,p1,#[⟨0,.data⟩],none⟩:Oper)).run P w2=.ok (.value (.bool b)) w2/\(b=true->xs=[]):=by
   rintro a2 w2 ⟨I2,L2,b1,b2,b3,b4⟩;have hr:Rep I2 L2 x (a2.eval (.tmp 3)):=b4.at (d:=3) rfl;generalize hvv:a2.eval (.tmp 3)=v at hr;have hv:∃ a l c,v=.slice a l c/\(a.isNone=true->xs=[]):=by
    unfold elemsOf at hxs;split at hxs
    ·simp at hxs;subst hxs;cases hr with
     | nilsl t=>exact⟨none,0,0,rfl,fun _=>rfl⟩
     | sl t xs b o c k f hc ht hk hI hR=>exact⟨_,_,_,rfl,fun h=>by simp at h⟩
    ·cases hr with
     | ms _ _ _ _ _ l b o c hL ht hk hl hc hv=>exact⟨_,_,_,rfl,fun h=>by simp at h⟩
     | msn=>exact⟨_,_,_,rfl,fun _=>by split at hxs<;>(try (split at hxs))<;>simp at hxs<;>exact hxs⟩
    ·simp at hxs
   obtain⟨a,l,c,rfl,hvn⟩:=hv;refine⟨a.isNone,?_,hvn⟩;have he:(Op.equal T (.slice a l c) (.slice none 0 0)).run P w2=.ok a.isNone w2:=L4 9999 hu a l c w2;have hq:=(EqRun.of (P:=P) (T:=T) (ox:=.tmp 3) (oy:=.const (.slice none 0 0)) (a:=.slice a l c) (b:=.slice none 0 0) (r:=a.isNone) (w:=w2) rfl rfl rfl rfl he).1;have hcon:a2.eval (.const (.slice none 0 0))=.slice none 0 0:=rfl;simp only[execOp,hvv,hcon];simp only[Sem.run_bind,Sem.run_pure]at hq |-;rw[hq];rfl
  have hop0:∀ {Q:Exit->Act->World->Prop}{K:Act->World->Prop},(∀ a' w',StOk B0 ⟨w0.w,w0.I,true⟩ I L ⟨8,[(3,x),(2,.sl true []),(0,x)],H⟩ a' w'->K a' w') ->
    (⟨some 3,.move (.tmp 0),T,p1,#[],none⟩:Oper).wpIn (wd none) 0 P a1 w1 K Q:=fun {Q K} hK=>by
   have:=CV none (P:=P) (Q:=Q) (mu:=[]) (cf:=fun _ _ _=>none) (ops:=cloneOps1 T B p1) (o:=⟨some 3,.move (.tmp 0),T,p1,#[],none⟩) J6 (by rfl) hs1 hK;rw[if_pos (by simp[Region.wanted])]at this;exact this
  refine IH (o:=⟨some 3,.move (.tmp 0),T,p1,#[],none⟩) (rest:=[⟨some 4,.binOp .eql T (.tmp 3) (.const (.slice none 0 0)) T,B,p1,#[⟨0,.data⟩],none⟩]) rfl (hop0 (fun a2 w2 hs2=>?_));obtain⟨b,hb1,hb2⟩:=hnil a2 w2 hs2;refine IH rfl ?_;refine⟨C7,?_⟩;show Oper.uponIn (wd none) 0 P _ a2 _ _ ((execOp a2.eval (⟨some 4,.binOp .eql T (.tmp 3) (.const (.slice none 0 0)) T,B,p1,#[⟨0,.data⟩],none⟩:Oper)).run P w2);rw[hb1];have hs3:StOk B0 ⟨w0.w,w0.I,true⟩ I L ⟨8,[(4,.bool b),(3,x),(2,.sl true []),(0,x)],H⟩ (a2.put (some 4) (.bool b)) w2:=by
   obtain⟨I2,L2,b1,b2,b3,b4⟩:=hs2;exact⟨I2,L2,b1,b2,by rw[put_defers];exact b3,DQ b4 (some 4) (.bool b) H⟩
  show (Code.cond (.tmp 4) ((Code.region 2 (cloneOps0 T p2) false).seq Code.ret) Code.skip).wp P _ (a2.put (some 4) (.bool b)) w2;generalize a2.put (some 4) (.bool b)=a3 at hs3 |-;have he4:a3.eval (.tmp 4)=.bool b:=by
   obtain⟨I2,L2,b1,b2,b3,b4⟩:=hs3;have hr:Rep I2 L2 (.bool b) (a3.eval (.tmp 4)):=b4.at (d:=4) rfl;generalize a3.eval (.tmp 4)=v at hr;cases hr;rfl
  cases b with
  | true=>
    refine wp_cond_true he4 ?_;refine wp_seq ?_;refine Cq (CT none (mu:=[]) J6 _ (s':=⟨8,[(4,.bool true),(3,x),(2,.sl true []),(0,x)],H⟩) (by rfl) hs3 (fun a4 w4 hs4=>?_));refine wp_ret ?_;have hx0:=hb2 rfl;refine fin hs4 (v:=.sl true []) rfl rfl ?_;exact hA hx0
  | false=>
    refine wp_cond_false he4 ?_;refine wp_skip ?_;refine wp_seq ?_;have hsrc:srcElems P H e x=some xs:=by
     unfold srcElems;cases x<;>first|exact hxs|(simp[elemsOf]at hxs)
    have he1:tyElem P T=some e:=by simp[tyElem,hu]
    have he2:tyNotInt P T=true:=by simp[tyNotInt,hu]
    obtain⟨v,K,hap,hret⟩:∃ v K,evAppend P H T T (.sl true []) x=some (v,K)/\retPol pol f H v K=some (r,H'):=by
     unfold evAppend;simp only[he1,he2,hs,hby,hz,hsrc];rw[if_pos ⟨c1,hk,hzl⟩];cases xs with
     | nil=>exact⟨_,_,rfl,hA rfl⟩
     | cons y ys=>
       refine⟨.ms H.length k (ys.length+1) 0 (ys.length+1),H++[.row k (y::ys) 0],?_,hB y ys rfl⟩;simp only[length_nil,Nat.zero_add,length_cons]at c2 |-;simp[c2]
    have hbs:evBuildSlice P T 0 []=some []:=by
     unfold evBuildSlice;simp[he1,hs,hz,hzl,hk,hzo,fillE]
    have hev:evOps P (fun _ _ _=>none) [] (cloneOps3 T p3).toList (cloneOps3 T p3).toList ⟨8,[(4,.bool false),(3,x),(2,.sl true []),(0,x)],H⟩ =
      some ⟨8,[(7,v),(6,x),(5,.sl true []),(4,.bool false),(3,x),(2,v),(0,x)],K⟩:=by
     simp[cloneOps3,evOps,evOne,evWanted,evOp,hbs,mutDst,St.put,St.ev,ins,lookD,look,evBuiltin,he2,hap]
    refine Cq (CT none (mu:=[]) J6 _ hev hs3 (fun a4 w4 hs4=>?_));refine wp_ret ?_;exact fin hs4 (v:=v) rfl rfl hret
theorem K7 {f:Nat}{fn:Func}{T B e k by_:Nat}{p0 p1 p2 p3:String}{ze:AV} (hf:P.funcs[f]?=some fn) (hc:fn.body=some (cloneCode T B p0 p1 p2 p3))
  (hn:(fn.name == "runtime.NumGoroutine")=false) (hnt:fn.ntmps=8) (hres:fn.results.toList=[.tmp 2]) (hu:P.underlying T=some (.slice e)) (hs:tySz P e=some k) (hk:0<k)
  (hby:tyBytes P e=some by_) (hz:tyZero P e=some ze) (hzl:ze.cells.length=k) (hzo:ze.cells.all AV.ok=true) {args:List AV}{H H':List MB}{r:AV} (h:cloneExt k by_ args H=some (r,H')):CallSound P f args H r H':=by
 unfold cloneExt at h;split at h
 ·rename_i x;split at h
  ·rename_i xs hxs;split at h
   ·rename_i hcond;obtain⟨c1,c2,c3⟩:=hcond;split at h
    ·rename_i _ _ y ys;simp at h;obtain⟨rfl,rfl⟩:=h;refine Ha { polC with own:=fun _=>true } hf hc hn hnt hres hu hs hk hby hz hzl hzo hxs c1 c2 (fun h=>by cases h) (fun y' ys' h=>?_);simp at h;obtain⟨rfl,rfl⟩:=h;exact P1 f k _ _ c3
    ·simp at h;obtain⟨rfl,rfl⟩:=h;refine Ha polC hf hc hn hnt hres hu hs hk hby hz hzl hzo hxs c1 c2 (fun h=>?_) (fun y' ys' h=>?_)
     ·rw[h];exact P3 f _
     ·rw[h];exact Pz f k _ _ (y'::ys') rfl (by rw[<- h];exact c3)
   ·simp at h
  ·simp at h
 ·simp at h
end Go.Ev
