/- What functions of the program compute; no further conditions. -/
import Derived.Test.YtkolcijbdendhaaGreatF18
set_option linter.unusedVariables false
set_option linter.unusedSimpArgs false
open List (cons_append getElem?_drop getElem?_eq_getElem getElem?_map length_append map_cons map_nil map_take nil_append take_length take_of_length_le)
open Go.Proofs Go.RowKit Go.IntWalk
set_option maxHeartbeats 4000000
set_option maxRecDepth 100000
namespace Go.Ev
attribute [local go_sem] evAppend evBin AV.cells Ax A8 bndO bnd evEq eqCells not_false_eq_true not_true_eq_false toList_some Array.size_empty length_append List.map_append tySzE List.head?_drop Nat.mul_one Aj Aq Ag Ak Al Ae
section
def lexP:List (Int×Int)->Int
 | []=>0
 | p::l=>if p.1<p.2 then -1 else if p.2<p.1 then 1 else lexP l
theorem By:∀ a b:List (Int×Int),lexP (a++b)=if lexP a≠0 then lexP a else lexP b
 | [],b=>by simp[lexP]
 | p::a,b=>by
   simp only[cons_append,lexP];split
   ·simp
   ·split
    ·simp
    ·exact By a b
theorem E0:∀ {l m:List Int},lexI l m=lexP (l.zip m)
 | [],m=>by simp[lexI,lexP]
 | _::_,[]=>by simp[lexI,lexP]
 | x::l,y::m=>by
   rw[lexI,List.zip_cons_cons,lexP,E0]
theorem d148 (ps:List (Int×Int)) (hl:ps.length<=1000000000) (H:List MB):call Pg pol1 148 [.sl false (ps.map spanAV)] H=some (I (lexP ps),H):=by
 refine AR Tryz.func148 rfl rfl rfl rfl rfl rfl (fun _=>rfl) (by simp[AV.plain,AV.plainL,AF]) rfl ?_ H;simp +contextual (disch:=omega) only[Tryz.f148,K0,go_sem,simprocAttr,KY,↓AE,↓AC,↓AB,↓AA];refine AY (M:=(mskOf (pol1.mask 148) (pol1.gc 148) (pol1.acts 148) 0 2)) (by rfl) ps.length (fun i=>(⟨22,[(7,I i),(6,I ps.length),(5,.sl false (ps.map spanAV))],[]⟩:St)) (fun i=>lexP (ps.take i)=0) ?_ ?_ rfl _ (by first|rfl|(refine AN rfl (by rfl) (by rfl) (by rfl) ?_ ?_<;>simp[AV.underL,AV.under,MB.under,AD,AI,AG,AF,AL,AM,-map_take,AF]))
 ·intro i hi hinv;obtain⟨p,hp⟩:∃ p,ps[i]?=some p:=⟨_,getElem?_eq_getElem hi⟩;have hp':(ps.map spanAV)[i]?=some (spanAV p):=by simp[hp]
  have hlt:(i:Int)<(ps.length:Int):=by omega
  have hst:lexP (ps.take (i+1))=lexP [p]:=by rw[AZ hp,By,hinv];simp
  have hall:lexP [p]≠0->lexP ps=lexP [p]:=fun h=>by
   conv=>lhs;rw[<- List.take_append_drop (i+1) ps,By,hst,if_pos h]
  simp only[lexP]at hst hall;by_cases h1:p.1<p.2
  ·rw[if_pos h1]at hall;rw[hall (by omega)];simp +contextual (disch:=omega) only[Tryz.f148,K0,go_sem,simprocAttr,KY,↓AE,↓AC,↓AB,↓AA,hp',hlt,h1];exact fzEq rfl rfl
  ·by_cases h2:p.2<p.1
   ·rw[if_neg h1,if_pos h2]at hall;rw[hall (by omega)];simp +contextual (disch:=omega) only[Tryz.f148,K0,go_sem,simprocAttr,KY,↓AE,↓AC,↓AB,↓AA,hp',hlt,h1,h2];exact fzEq rfl rfl
   ·rw[if_neg h1,if_neg h2]at hst;simp +contextual (disch:=omega) only[Tryz.f148,K0,go_sem,simprocAttr,KY,↓AE,↓AC,↓AB,↓AA,hp',hlt,h1,h2,hst];exact(by first|rfl|(refine AN rfl (by rfl) (by rfl) (by rfl) ?_ ?_<;>simp[AV.underL,AV.under,MB.under,AD,AI,AG,AF,AL,AM,-map_take,AF]))
 ·intro hinv;rw[take_length]at hinv;rw[hinv];simp +contextual (disch:=omega) only[Tryz.f148,K0,go_sem,simprocAttr,KY,↓AE,↓AC,↓AB,↓AA];exact fzEq rfl rfl
theorem PT (t:Bool) (ps:List (Int×Int)) (hl:ps.length<=1000000000) (H:List MB):call Pg pol1 148 [.sl t (ps.map spanAV)] H=some (I (lexP ps),H):=
 (BB (P:=Pg) (pol:=pol1) (f:=148) (l:=[.sl false (ps.map spanAV)]) (H1:=H) rfl (by
   simp only[frzArgs,show pol1.byref 148 0=false from rfl,Bool.false_eq_true,if_false,C1 (AF ps)]) (by simp[AV.plainL,AV.plain,AF])).trans (d148 ps hl H)
def tailK:Re->List Int
 | .mk op set kids mn mx md n neg=>[mn,mx,md,n,neg01 neg,(kids.length:Int)]
theorem DB (r:Re):nodeK r=r.op::(r.set.length:Int)::(r.set.flatMap (fun p=>[p.1,p.2])++tailK r):=by
 cases r;rfl
def pairsS:List (Int×Int)->List (Int×Int)->List (Int×Int)
 | p::l,q::m=>(p.1,q.1)::(p.2,q.2)::pairsS l m
 | _,_=>[]
theorem Gm:∀ {l m:List (Int×Int)}{a b:List Int},l.length=m.length->((l.flatMap fun p=>[p.1,p.2])++a).zip ((m.flatMap fun p=>[p.1,p.2])++b)=pairsS l m++a.zip b
 | [],[],_,_,_=>rfl
 | [],_::_,_,_,h=>by simp at h
 | _::_,[],_,_,h=>by simp at h
 | p::l,q::m,a,b,h=>by
   have ih:=Gm (l:=l) (m:=m) (a:=a) (b:=b) (by simpa using h);simp only[List.flatMap_cons,cons_append,nil_append,List.zip_cons_cons,pairsS,ih]
theorem Ft:∀ {l m:List (Int×Int)}{i:Nat}{p q:Int×Int},l[i]?=some p->m[i]?=some q->pairsS (l.take (i+1)) (m.take (i+1))=pairsS (l.take i) (m.take i)++[(p.1,q.1),(p.2,q.2)]
 | [],_,_,_,_,h,_=>by simp at h
 | _::_,[],_,_,_,_,h=>by simp at h
 | x::l,y::m,0,p,q,h1,h2=>by
   simp at h1 h2;subst h1;subst h2;simp[pairsS]
 | x::l,y::m,i+1,p,q,h1,h2=>by
   have:=Ft (l:=l) (m:=m) (i:=i) (by simpa using h1) (by simpa using h2);simp only[List.take_succ_cons,pairsS,this,cons_append]
theorem Ew:∀ {l m:List (Int×Int)} (i:Nat),pairsS l m=pairsS (l.take i) (m.take i)++pairsS (l.drop i) (m.drop i)
 | [],m,i=>by simp[pairsS]
 | x::l,[],i=>by cases i<;>simp[pairsS]
 | x::l,y::m,0=>by simp[pairsS]
 | x::l,y::m,i+1=>by
   simp only[List.take_succ_cons,List.drop_succ_cons,pairsS,cons_append];rw[<- Ew i]
theorem NL (a b:Re):lexI (nodeK a) (nodeK b)=(if lexP [(a.op,b.op),((a.set.length:Int),(b.set.length:Int))]≠0 then lexP [(a.op,b.op),((a.set.length:Int),(b.set.length:Int))] else lexP (pairsS a.set b.set++(tailK a).zip (tailK b))):=by
 by_cases h:lexP [(a.op,b.op),((a.set.length:Int),(b.set.length:Int))]=0
 ·rw[if_neg (by simpa using h)];have hl:a.set.length=b.set.length:=by
   simp only[lexP]at h;split at h
   ·omega
   ·split at h
    ·omega
    ·split at h
     ·omega
     ·split at h<;>omega
  rw[E0,DB,DB,List.zip_cons_cons,List.zip_cons_cons,Gm hl];have:=By [(a.op,b.op),((a.set.length:Int),(b.set.length:Int))] (pairsS a.set b.set++(tailK a).zip (tailK b));rw[if_neg (by simpa using h)]at this;exact this
 ·rw[if_pos h,E0,DB,DB,List.zip_cons_cons,List.zip_cons_cons];have:=By [(a.op,b.op),((a.set.length:Int),(b.set.length:Int))] ((a.set.flatMap (fun p=>[p.1,p.2])++tailK a).zip (b.set.flatMap (fun p=>[p.1,p.2])++tailK b));rw[if_pos h]at this;exact this
theorem d133 (a b:Re) (ha:a.wt<=1000000000) (H:List MB):call Pg pol1 133 [.pt (reC a),.pt (reC b)] H=some (I (lexI (nodeK a) (nodeK b)),H):=by
 have hn:=NL a b;obtain⟨op,set,kids,mn,mx,md,n,neg⟩:=a;obtain⟨op',set',kids',mn',mx',md',n',neg'⟩:=b;simp only[Re.wt]at ha;have hkl:=Re.wtL_len kids;rw[show (.pt (reC (.mk op set kids mn mx md n neg)):AV)=.pt (nodeL op set kids mn mx md n neg) from congrArg AV.pt Ab,show (.pt (reC (.mk op' set' kids' mn' mx' md' n' neg')):AV)=.pt (nodeL op' set' kids' mn' mx' md' n' neg') from congrArg AV.pt Ab];have hn2:lexI (nodeK (.mk op set kids mn mx md n neg)) (nodeK (.mk op' set' kids' mn' mx' md' n' neg'))=(if lexP [(op,op'),((set.length:Int),(set'.length:Int))]≠0 then lexP [(op,op'),((set.length:Int),(set'.length:Int))] else lexP (pairsS set set'++[(mn,mn'),(mx,mx'),(md,md'),(n,n'),(neg01 neg,neg01 neg'),((kids.length:Int),(kids'.length:Int))])):=hn;clear hn;generalize lexI (nodeK (.mk op set kids mn mx md n neg)) (nodeK (.mk op' set' kids' mn' mx' md' n' neg'))=R at *;have g1:=fun H=>PT true [(op,op'),((set.length:Int),(set'.length:Int))] (by simp) H;have g3:=fun H=>PT true [(mn,mn'),(mx,mx'),(md,md'),(n,n'),(neg01 neg,neg01 neg'),((kids.length:Int),(kids'.length:Int))] (by simp) H;simp only[map_cons,map_nil]at g1 g3;refine AR Tryz.func133 rfl rfl rfl rfl rfl rfl (fun _=>rfl) (by simp[AV.plain,AV.plainL,AF,AH]) rfl ?_ H;by_cases h0:lexP [(op,op'),((set.length:Int),(set'.length:Int))]=0
 ·rw[if_neg (by simpa using h0)]at hn2;rw[h0]at g1;have hl:set.length=set'.length:=by
   simp only[lexP]at h0;split at h0
   ·omega
   ·split at h0
    ·omega
    ·split at h0
     ·omega
     ·split at h0<;>omega
  clear h0;rw[By]at hn2;simp +contextual (disch:=omega) only[Tryz.f133,K1,go_sem,simprocAttr,KZ,↓AE,↓AC,↓AB,↓AA,g1];repeat' (first|intro _|apply And.intro|(unfold dOk;kernel_rfl)|exact St.beq_refl _|exact AQ|(show altO _ _ _ _=true;kernel_rfl)|(show (_||_)=true;kernel_rfl)|(show (_&&_)=true;kernel_rfl))
  refine AY (M:=(mskOf (pol1.mask 133) (pol1.gc 133) (pol1.acts 133) 0 5)) (by rfl) set.length (fun i=>(⟨132,[(39,I i),(38,I set.length),(37,.sl false (set.map spanAV)),(1,.pt (nodeL op' set' kids' mn' mx' md' n' neg')),(0,.pt (nodeL op set kids mn mx md n neg))],[]⟩:St)) (fun i=>lexP (pairsS (set.take i) (set'.take i))=0) ?_ ?_ rfl _ (by first|rfl|(refine AN rfl (by rfl) (by rfl) (by rfl) ?_ ?_<;>simp[AV.underL,AV.under,MB.under,AD,AI,AG,AF,AL,AM,-map_take,AF,AH]))
  ·intro i hi hinv;obtain⟨p,hp⟩:∃ p,set[i]?=some p:=⟨_,getElem?_eq_getElem hi⟩;obtain⟨q,hq⟩:∃ q,set'[i]?=some q:=⟨_,getElem?_eq_getElem (by omega)⟩;have hp':(set.map spanAV)[i]?=some (spanAV p):=by simp[hp]
   have hq':(set'.map spanAV)[i]?=some (spanAV q):=by simp[hq]
   have hlt:(i:Int)<(set.length:Int):=by omega
   have hlt2:(i:Int)<(set'.length:Int):=by omega
   have hst:lexP (pairsS (set.take (i+1)) (set'.take (i+1)))=lexP [(p.1,q.1),(p.2,q.2)]:=by rw[Ft hp hq,By,hinv];simp
   have g2:=fun H=>PT true [(p.1,q.1),(p.2,q.2)] (by simp) H;simp only[map_cons,map_nil]at g2;by_cases hc:lexP [(p.1,q.1),(p.2,q.2)]=0
   ·rw[hc]at g2 hst;simp +contextual (disch:=omega) only[Tryz.f133,K1,go_sem,simprocAttr,KZ,↓AE,↓AC,↓AB,↓AA,hp',hq',hlt,hlt2,g2];repeat' (first|intro _|apply And.intro|(unfold dOk;kernel_rfl)|exact St.beq_refl _|exact AQ|(show altO _ _ _ _=true;kernel_rfl)|(show (_||_)=true;kernel_rfl)|(show (_&&_)=true;kernel_rfl))
    ·exact hst
    ·exact(by first|rfl|(refine AN rfl (by rfl) (by rfl) (by rfl) ?_ ?_<;>simp[AV.underL,AV.under,MB.under,AD,AI,AG,AF,AL,AM,-map_take,AF,AH]))
   ·have hall:lexP (pairsS set set')=lexP [(p.1,q.1),(p.2,q.2)]:=by
     rw[Ew (i+1),By,hst,if_pos hc]
    rw[hall,if_pos hc]at hn2;rw[hn2];generalize lexP [(p.1,q.1),(p.2,q.2)]=c at *;simp +contextual (disch:=omega) only[Tryz.f133,K1,go_sem,simprocAttr,KZ,↓AE,↓AC,↓AB,↓AA,hp',hq',hlt,hlt2,g2,hc];repeat' (first|intro _|apply And.intro|(unfold dOk;kernel_rfl)|exact St.beq_refl _|exact AQ|(show altO _ _ _ _=true;kernel_rfl)|(show (_||_)=true;kernel_rfl)|(show (_&&_)=true;kernel_rfl))
    exact fzEq rfl rfl
  ·intro hinv;rw[take_length,take_of_length_le (by omega)]at hinv;rw[hinv,if_neg (by simp)]at hn2;rw[hn2];generalize lexP [(mn,mn'),(mx,mx'),(md,md'),(n,n'),(neg01 neg,neg01 neg'),((kids.length:Int),(kids'.length:Int))]=c at *;simp +contextual (disch:=omega) only[Tryz.f133,K1,go_sem,simprocAttr,KZ,↓AE,↓AC,↓AB,↓AA,g3,d87];repeat' (first|intro _|apply And.intro|(unfold dOk;kernel_rfl)|exact St.beq_refl _|exact AQ|(show altO _ _ _ _=true;kernel_rfl)|(show (_||_)=true;kernel_rfl)|(show (_&&_)=true;kernel_rfl))
   exact fzEq rfl rfl
 ·rw[if_pos h0]at hn2;rw[hn2];generalize lexP [(op,op'),((set.length:Int),(set'.length:Int))]=c at *;simp +contextual (disch:=omega) only[Tryz.f133,K1,go_sem,simprocAttr,KZ,↓AE,↓AC,↓AB,↓AA,g1,h0];repeat' (first|intro _|apply And.intro|(unfold dOk;kernel_rfl)|exact St.beq_refl _|exact AQ|(show altO _ _ _ _=true;kernel_rfl)|(show (_||_)=true;kernel_rfl)|(show (_&&_)=true;kernel_rfl))
  exact fzEq rfl rfl
theorem CK (k k':Re) (a b:List Re):(cmpR k k' = 0/\cmpL (k::a) (k'::b)=cmpL a b)∨(cmpR k k'≠0/\cmpL (k::a) (k'::b)=cmpR k k'):=by
 by_cases h:cmpR k k' = 0
 ·left;refine⟨h,?_⟩;rw[cmpL,if_neg (by simpa using h)]
 ·right;refine⟨h,?_⟩;rw[cmpL,if_pos h]
theorem FX:∀ {a b:List Re} (x y:List Re),a.length=b.length->cmpL a b=0->cmpL (a++x) (b++y)=cmpL x y
 | [],[],x,y,_,_=>rfl
 | [],_::_,_,_,h,_=>by simp at h
 | _::_,[],_,_,h,_=>by simp at h
 | k::a,k'::b,x,y,h,h0=>by
   rcases CK k k' a b with ⟨h1,e⟩|⟨h1,e⟩
   ·rcases CK k k' (a++x) (b++y) with ⟨h2,e2⟩|⟨h2,e2⟩
    ·rw[cons_append,cons_append,e2];exact FX x y (by simpa using h) (by rw[<- e];exact h0)
    ·exact absurd h1 h2
   ·rw[e]at h0;exact absurd h0 h1
theorem FW:∀ {a b:List Re} (x y:List Re),a.length=b.length->cmpL a b≠0->cmpL (a++x) (b++y)=cmpL a b
 | [],[],x,y,_,h=>by simp[cmpL]at h
 | [],_::_,_,_,h,_=>by simp at h
 | _::_,[],_,_,h,_=>by simp at h
 | k::a,k'::b,x,y,h,h0=>by
   rcases CK k k' a b with ⟨h1,e⟩|⟨h1,e⟩
   ·rcases CK k k' (a++x) (b++y) with ⟨h2,e2⟩|⟨h2,e2⟩
    ·rw[cons_append,cons_append,e2,e];exact FW x y (by simpa using h) (by rw[<- e];exact h0)
    ·exact absurd h1 h2
   ·rcases CK k k' (a++x) (b++y) with ⟨h2,e2⟩|⟨h2,e2⟩
    ·exact absurd h2 h1
    ·rw[cons_append,cons_append,e2,e]
theorem d132 (b0 b1:MB):∀(N:Nat) (a b:Re),a.wt<=N->a.wt<=1000000000->call Pg pol1 132 [.pt (reC a),.pt (reC b),.rf 2 1 0 0] [b0,b1,.row 1 [.clo 132 [.rf 2 1 0 0]] 0]=some (I (cmpR a b),[b0,b1,.row 1 [.clo 132 [.rf 2 1 0 0]] 0])
 | 0,a,_,h,_=>by have:=a.wt_pos;omega
 | N+1,a,b,h,hN=>by
   have h133:=d133 a b hN;have hce:=J1 a b;generalize hL:lexI (nodeK a) (nodeK b)=L0 at *;have hlen:L0=0->a.sub.length=b.sub.length:=fun h0=>by
    have:=DA (hL.trans h0);obtain⟨op,set,kids,mn,mx,md,n,neg⟩:=a;obtain⟨op',set',kids',mn',mx',md',n',neg'⟩:=b;exact(Je this).2.2.1
   obtain⟨op,set,kids,mn,mx,md,n,neg⟩:=a;obtain⟨op',set',kids',mn',mx',md',n',neg'⟩:=b;rw[show (Re.mk op set kids mn mx md n neg).sub=kids from rfl,show (Re.mk op' set' kids' mn' mx' md' n' neg').sub=kids' from rfl]at hlen hce;have hwt:1+set.length+Re.wtL kids=(Re.mk op set kids mn mx md n neg).wt:=by simp[Re.wt]
   have hkl:=Re.wtL_len kids;have ih:=fun k (hk:k∈kids) (k':Re)=>d132 b0 b1 N k k' (by have:=Re.wtL_mem hk;omega) (by have:=Re.wtL_mem hk;omega);rw[hce];clear hce hL;obtain⟨F,hF⟩:∃ F:List MB,F=[b0,b1,.row 1 [.clo 132 [.rf 2 1 0 0]] 0]:=⟨_,rfl⟩;have ea:(.pt (reC (.mk op set kids mn mx md n neg)):AV)=.pt (nodeL op set kids mn mx md n neg):=congrArg AV.pt Ab;have eb:(.pt (reC (.mk op' set' kids' mn' mx' md' n' neg')):AV)=.pt (nodeL op' set' kids' mn' mx' md' n' neg'):=congrArg AV.pt Ab;rw[ea,eb]at h133 |-;have fr:frzArgs pol1 132 0 [.pt (nodeL op set kids mn mx md n neg),.pt (nodeL op' set' kids' mn' mx' md' n' neg'),.rf 2 1 0 0] [b0,b1,.row 1 [.clo 132 [.rf 2 1 0 0]] 0]=some ([.pt (nodeL op set kids mn mx md n neg),.pt (nodeL op' set' kids' mn' mx' md' n' neg'),.rf 2 1 0 0],[b0,b1,.row 1 [.clo 132 [.rf 2 1 0 0]] 0]):=
    AT _ _ _ (by simp[mixOk,show pol1.byref 132 2=true from rfl,AV.plain,AV.plainL,AF,AH])
   have rt:∀ x:Int,retPol pol1 132 [b0,b1,.row 1 [.clo 132 [.rf 2 1 0 0]] 0] (I x) [b0,b1,.row 1 [.clo 132 [.rf 2 1 0 0]] 0]=some (I x,[b0,b1,.row 1 [.clo 132 [.rf 2 1 0 0]] 0]):=fun x=>
    Am rfl rfl rfl (by simp[keptOk,MB.beq_refl]) rfl
   refine AX (pol:=pol1) Tryz.func132 rfl rfl rfl rfl fr ?_;by_cases h0:L0=0
   ·rw[if_neg (by simpa using h0)];have hl:=hlen h0;subst h0;simp +contextual (disch:=omega) only[Tryz.f132,K2,go_sem,simprocAttr,Ka,↓AE,↓AC,↓AB,↓AA,h133];refine AY (M:=mskOf (pol1.mask 132) (pol1.gc 132) (pol1.acts 132) 3 5) (by rfl) kids.length (fun i=>(⟨41,[(20,I i),(19,I kids.length),(2,.rf 2 1 0 0),(1,.pt (nodeL op' set' kids' mn' mx' md' n' neg')),(0,.pt (nodeL op set kids mn mx md n neg))],[b0,b1,.row 1 [.clo 132 [.rf 2 1 0 0]] 0]⟩:St)) (fun i=>cmpL (kids.take i) (kids'.take i)=0) ?_ ?_ rfl _ (by rfl)
    ·intro i hi hinv;obtain⟨k,hk⟩:∃ k,kids[i]?=some k:=⟨_,getElem?_eq_getElem hi⟩;obtain⟨k',hk'⟩:∃ k,kids'[i]?=some k:=⟨_,getElem?_eq_getElem (by omega)⟩;have ihk:=ih k (List.mem_of_getElem? hk) k';have g1:=At hk;have g2:=At hk';have hlt:(i:Int)<(kids.length:Int):=by omega
     have hlt2:(i:Int)<(kids'.length:Int):=by omega
     have hst:cmpL (kids.take (i+1)) (kids'.take (i+1))=cmpR k k':=by
      rw[AZ hk,AZ hk',FX _ _ (by simp;omega) hinv];rcases CK k k' [] [] with ⟨h2,e2⟩|⟨h2,e2⟩
      ·rw[e2,h2];rfl
      ·exact e2
     by_cases hc:cmpR k k' = 0
     ·rw[hc]at hst ihk;simp +contextual (disch:=omega) only[Tryz.f132,K2,go_sem,simprocAttr,Ka,↓AE,↓AC,↓AB,↓AA,g1,g2,hlt,hlt2,ihk,AK,AJ,AP];repeat' (first|intro _|apply And.intro|(unfold dOk;kernel_rfl)|exact St.beq_refl _|exact AQ|(show altO _ _ _ _=true;kernel_rfl)|(show (_||_)=true;kernel_rfl)|(show (_&&_)=true;kernel_rfl))
      ·exact hst
      ·rfl
     ·have hall:cmpL kids kids' = cmpR k k':=by
       conv=>lhs;rw[<- List.take_append_drop (i+1) kids,<- List.take_append_drop (i+1) kids',FW _ _ (by simp;omega) (by rw[hst];exact hc),hst]
      rw[hall];generalize cmpR k k' = c at *;simp +contextual (disch:=omega) only[Tryz.f132,K2,go_sem,simprocAttr,Ka,↓AE,↓AC,↓AB,↓AA,g1,g2,hlt,hlt2,ihk,hc,AK,AJ,AP];repeat' (first|intro _|apply And.intro|(unfold dOk;kernel_rfl)|exact St.beq_refl _|exact AQ|(show altO _ _ _ _=true;kernel_rfl)|(show (_||_)=true;kernel_rfl)|(show (_&&_)=true;kernel_rfl))
      exact rt _
    ·intro hinv;rw[take_length,take_of_length_le (by omega)]at hinv;rw[hinv];simp +contextual (disch:=omega) only[Tryz.f132,K2,go_sem,simprocAttr,Ka,↓AE,↓AC,↓AB,↓AA];exact rt _
   ·rw[if_pos h0];simp +contextual (disch:=omega) only[Tryz.f132,K2,go_sem,simprocAttr,Ka,↓AE,↓AC,↓AB,↓AA,h133,h0];exact rt _
theorem d112 (a b:Re) (ha:a.wt<=1000000000) (H:List MB):call Pg pol1 112 [reAV a,reAV b] H=some (I (cmpR a b),H):=by
 have h132:=d132 (.row 8 [reAV a] 1) (.row 8 [reAV b] 1) a.wt a b (Nat.le_refl _) ha;refine AR Tryz.func112 rfl rfl rfl rfl rfl rfl (fun _=>rfl) (by simp[AV.plain,AV.plainL,AO]) rfl ?_ H;have f1:fz (.rf 0 1 0 0) [.row 8 [.agg (reC a)] 0,.row 8 [.agg (reC b)] 0]=some (.pt (reC a),[.row 8 [.agg (reC a)] 1,.row 8 [.agg (reC b)] 0]):=F0 (x:=.agg (reC a)) (k:=8) (z:=0) rfl rfl rfl (AO a);have f2:fz (.rf 1 1 0 0) [.row 8 [.agg (reC a)] 1,.row 8 [.agg (reC b)] 0]=some (.pt (reC b),[.row 8 [.agg (reC a)] 1,.row 8 [.agg (reC b)] 1]):=F0 (x:=.agg (reC b)) (k:=8) (z:=0) rfl rfl rfl (AO b);simp +contextual (disch:=omega) only[Tryz.f112,Sn,go_sem,simprocAttr,SU,↓AE,↓AC,↓AB,↓AA,h132,f1,f2,AK,AJ,AP,lookD,look];exact fzEq rfl rfl
end
section
theorem C6:∀(N:Nat) (l:List Re) (y z:Re),l.length<=N->compactR (l++[y]++[z])=if cmpR y z=0 then compactR (l++[y]) else compactR (l++[y])++[z]
 | _,[],y,z,_=>by
   rw[nil_append,List.singleton_append];have e0:∀ x:Re,compactR [x]=[x]:=fun x=>by simp[compactR]
   by_cases h:cmpR y z=0
   ·have e:compactR [y,z]=[y]:=by rw[compactR,if_pos h,e0]
    rw[if_pos h,e];exact(e0 y).symm
   ·have e:compactR [y,z]=[y,z]:=by rw[compactR,if_neg h,e0]
    rw[if_neg h,e,e0];rfl
 | _,[x],y,z,_=>by
   simp only[cons_append,nil_append];rw[compactR];by_cases h:cmpR x y=0
   ·obtain rfl:=BN h;rw[if_pos h];have e:compactR [x,x]=[x]:=by rw[compactR,if_pos h];simp[compactR]
    rw[e,compactR];by_cases h':cmpR x z=0
    ·rw[if_pos h',if_pos h'];simp[compactR]
    ·rw[if_neg h',if_neg h'];simp[compactR]
   ·rw[if_neg h];have e:compactR [x,y]=[x,y]:=by rw[compactR,if_neg h];simp[compactR]
    rw[e,compactR];by_cases h':cmpR y z=0
    ·rw[if_pos h',if_pos h'];simp[compactR]
    ·rw[if_neg h',if_neg h'];simp[compactR]
 | N+1,x::w::l,y,z,hl=>by
   simp only[cons_append];rw[compactR,compactR];by_cases h:cmpR x w=0
   ·rw[if_pos h,if_pos h];exact C6 N (x::l) y z (by simp at hl |-;omega)
   ·rw[if_neg h,if_neg h];have:=C6 N (w::l) y z (by simp at hl |-;omega);simp only[cons_append]at this;rw[this];split<;>rfl
theorem Bu:∀(N:Nat) (l:List Re),l.length<=N->(compactR l).length<=l.length
 | _,[],_=>by simp[compactR]
 | _,[x],_=>by simp[compactR]
 | N+1,x::y::l,h=>by
   rw[compactR];split
   ·have:=Bu N (x::l) (by simp at h |-;omega);simp at this |-;omega
   ·have:=Bu N (y::l) (by simp at h |-;omega);simp at this |-;omega
theorem Dm {l:List Re}{p:Nat}{y z:Re} (h1:l[p]?=some y) (h2:l[p+1]?=some z):compactR (l.take (p+2))=if cmpR z y=0 then compactR (l.take (p+1)) else compactR (l.take (p+1))++[z]:=by
 have e1:l.take (p+1)=l.take p++[y]:=AZ h1;have e2:l.take (p+2)=l.take p++[y]++[z]:=by rw[<- e1];exact AZ h2
 have ha:=Bv z y;rw[e2,e1,C6 _ (l.take p) y z (Nat.le_refl _)];by_cases h:cmpR y z=0
 ·rw[if_pos h,if_pos (by omega)]
 ·rw[if_neg h,if_neg (by omega)]
theorem d114 (a b:Re) (ha:a.wt<=1000000000) (H:List MB):call Pg pol1 114 [reAV a,reAV b] H=some (.bool (decide (cmpR a b=0)),H):=by
 have h112:=d112 a b ha;refine AR Tryz.func114 rfl rfl rfl rfl rfl rfl (fun _=>rfl) (by simp[AV.plain,AV.plainL,AO]) rfl ?_ H;generalize cmpR a b=c at *;by_cases h:c=0
 ·subst h;simp +contextual (disch:=omega) only[Tryz.f114,RX,go_sem,simprocAttr,RQ,↓AE,↓AC,↓AB,↓AA,h112,AK,AJ,AP];exact⟨_,rfl⟩
 ·rw[decide_eq_false h];simp +contextual (disch:=omega) only[Tryz.f114,RX,go_sem,simprocAttr,RQ,↓AE,↓AC,↓AB,↓AA,h112,h,AK,AJ,AP];exact⟨_,rfl⟩
theorem Bi {H:List MB}{id:Nat}{b:MB} (hr:H[id]?=some b):H.set id b=H:=by
 have hid:=(List.getElem?_eq_some_iff.1 hr).1;apply List.ext_getElem?;intro q;by_cases e:id=q
 ·subst e;rw[List.getElem?_set_self hid,hr]
 ·rw[List.getElem?_set_ne e]
theorem Jf {l:List Re}{i:Nat}{r:Re} (hr:l[i]?=some r):r.wt<=Re.wtL l:=Re.wtL_mem (List.mem_of_getElem? hr)
theorem d113 (l:List Re) {H:List MB}{id n:Nat} (hr:H[id]?=some (.row 8 (l.map reAV) 0)) (hn:l.length=n) (hw:Re.wtL l<=1000000000) (hH:HP H) :
  call Pg pol1 113 [.ms id 8 n 0 n,.clo 114 []] H=some (.ms id 8 n 0 (compactR l).length,H.set id (.row 8 ((compactR l).map reAV++zerosR (n-(compactR l).length)) 0)):=by
 have hll:=Re.wtL_len l;have hfr:frzArgs pol1 113 0 [.ms id 8 n 0 n,.clo 114 []] H=some ([.ms id 8 n 0 n,.clo 114 []],H):=rfl;have rp:∀ H1 r H,retPol pol1 113 H1 r H=some (r,H):=fun H1 r H=>rfl;have hid:=(List.getElem?_eq_some_iff.1 hr).1;have hlen:(l.map reAV).length=n:=by simp[hn]
 have hsame:=Bi hr;have hnone:compactR l=l->H.set id (.row 8 ((compactR l).map reAV++zerosR (n-(compactR l).length)) 0)=H:=fun e=>by
  rw[e,hn,Nat.sub_self,show zerosR 0=[] from rfl,List.append_nil,hsame]
 refine AX (pol:=pol1) Tryz.func113 rfl rfl rfl rfl hfr ?_;by_cases h2:n<2
 ·have e:compactR l=l:=by
   match l,hn with
   | [],_=>simp[compactR]
   | [x],_=>simp[compactR]
   | _::_::_,hn=>simp at hn;omega
  rw[hnone e,e,hn];have h2':(n:Int)<2:=by omega
  simp +contextual (disch:=omega) only[Tryz.f113,F6,go_sem,simprocAttr,Fw,↓AE,↓AC,↓AB,↓AA,h2'];exact rp _ _ _
 have h2':¬ (n:Int)<2:=by omega
 simp +contextual (disch:=omega) only[Tryz.f113,F6,go_sem,simprocAttr,Fw,↓AE,↓AC,↓AB,↓AA,h2'];refine AY (M:=mskOf (pol1.mask 113) (pol1.gc 113) (pol1.acts 113) H.length 4) (by rfl) (n-1) (fun s=>(⟨66,[(5,I (s+1:Nat)),(1,.clo 114 []),(0,.ms id 8 n 0 n)],H⟩:St)) (fun s=>compactR (l.take (s+1))=l.take (s+1)) ?_ ?_ ?_ _ ?_
 ·intro s hs hinv;obtain⟨y,hy⟩:∃ y,l[s]?=some y:=⟨_,getElem?_eq_getElem (by omega)⟩;obtain⟨z,hz⟩:∃ z,l[s+1]?=some z:=⟨_,getElem?_eq_getElem (by omega)⟩;have hat:=Dm hy hz;have h114:=d114 z y (by have:=Jf hz;omega);have gy:=At hy;have gz:=At hz;have hlt:((s+1:Nat):Int)<(n:Int):=by omega
  have hlt2:(s:Int)<(n:Int):=by omega
  have hw1:IntKind.i64.wrap (((s+1:Nat):Int)-1)=(s:Int):=by rw[i64_in]<;>omega
  by_cases hc:cmpR z y=0
  ·rw[if_pos hc,hinv]at hat;rw[decide_eq_true hc]at h114;simp +contextual (disch:=omega) only[Tryz.f113,F6,go_sem,simprocAttr,Fw,↓AE,↓AC,↓AB,↓AA,hr,hlen,gy,gz,hlt,hlt2,hw1,h114,AK,AJ,AP];repeat' (first|intro _|apply And.intro|(unfold dOk;kernel_rfl)|exact St.beq_refl _|exact AQ|(show altO _ _ _ _=true;kernel_rfl)|(show (_||_)=true;kernel_rfl)|(show (_&&_)=true;kernel_rfl))
   have hF0:∀ q,s+2+q<=n->(compactR (l.take (s+2+q))).length<=s+1+q:=fun q=>by
    induction q with
    | zero=>
      intro _;rw[Nat.add_zero,show s+2=s+1+1 by omega,hat,List.length_take];omega
    | succ q ih=>
      intro hq;have ih:=ih (by omega);obtain⟨y,hy⟩:∃ y,l[s+1+q]?=some y:=⟨_,getElem?_eq_getElem (by omega)⟩;obtain⟨z,hz⟩:∃ z,l[s+1+q+1]?=some z:=⟨_,getElem?_eq_getElem (by omega)⟩;have:=Dm hy hz;rw[show s+1+q+2=s+2+(q+1) by omega,show s+1+q+1=s+2+q by omega]at this;rw[this];split
      ·omega
      ·rw[length_append];simp only[List.length_cons,List.length_nil];omega
   refine AY (M:=mskOf (pol1.mask 113) (pol1.gc 113) (pol1.acts 113) H.length 9) (by rfl) (n-(s+2)) (fun q=>(⟨66,[(7,I (q+1:Nat)),(6,.ms id 8 n (s+1) (n-(s+1))),(5,I (compactR (l.take (s+2+q))).length),(1,.clo 114 []),(0,.ms id 8 n 0 n)],H.set id (.row 8 ((compactR (l.take (s+2+q))++l.drop (compactR (l.take (s+2+q))).length).map reAV) 0)⟩:St)) (fun _=>True) ?_ ?_ trivial _ ?_
   ·intro q hq _;obtain⟨y,hy⟩:∃ y,l[s+1+q]?=some y:=⟨_,getElem?_eq_getElem (by omega)⟩;obtain⟨z,hz⟩:∃ z,l[s+1+q+1]?=some z:=⟨_,getElem?_eq_getElem (by omega)⟩;have hat2:=Dm hy hz;have h114:=d114 z y (by have:=Jf hz;omega);have hFl:=hF0 q (by omega);rw[show s+1+q+2=s+2+(q+1) by omega,show s+1+q+1=s+2+q by omega]at hat2;rw[hat2];generalize compactR (l.take (s+2+q))=F at *;have gy:((F++l.drop F.length).map reAV)[s+1+q]?=some (reAV y):=by
     rw[getElem?_map,List.getElem?_append_right (by omega),getElem?_drop,show F.length+(s+1+q-F.length)=s+1+q by omega,hy];rfl
    have gz:((F++l.drop F.length).map reAV)[s+1+(q+1)]?=some (reAV z):=by
     rw[getElem?_map,List.getElem?_append_right (by omega),getElem?_drop,show F.length+(s+1+(q+1)-F.length)=s+1+q+1 by omega,hz];rfl
    have hrow:(H.set id (.row 8 ((F++l.drop F.length).map reAV) 0))[id]?=some (.row 8 ((F++l.drop F.length).map reAV) 0):=List.getElem?_set_self hid;have hlen2:((F++l.drop F.length).map reAV).length=n:=by simp;omega
    have hqlt:((q+1:Nat):Int)<((n-(s+1):Nat):Int):=by omega
    have hqlt2:(q:Int)<((n-(s+1):Nat):Int):=by omega
    have hw2:IntKind.i64.wrap (((q+1:Nat):Int)-1)=(q:Int):=by rw[i64_in]<;>omega
    have hFi:((F.length:Nat):Int)<(n:Int):=by omega
    have hFn:F.length<n:=by omega
    by_cases hc2:cmpR z y=0
    ·rw[if_pos hc2];rw[decide_eq_true hc2]at h114;generalize hE:(F++l.drop F.length).map reAV=E at *;simp +contextual (disch:=omega) only[Tryz.f113,F6,go_sem,simprocAttr,Fw,↓AE,↓AC,↓AB,↓AA,hrow,hlen2,gy,gz,hqlt,hqlt2,hw2,h114,AK,AJ,AP];repeat' (first|intro _|apply And.intro|(unfold dOk;kernel_rfl)|exact St.beq_refl _|exact AQ|(show altO _ _ _ _=true;kernel_rfl)|(show (_||_)=true;kernel_rfl)|(show (_&&_)=true;kernel_rfl))
     subst hE;exact AN (n:=H.length) rfl rfl (by rfl) (take_of_length_le (by simp)) (by simp[AV.underL,AV.under,hid]) ((hH.set (AH _)).all _)
    ·rw[if_neg hc2];rw[decide_eq_false hc2]at h114;obtain⟨r2,hr2⟩:∃ r2,l[F.length]?=some r2:=⟨_,getElem?_eq_getElem (by omega)⟩;have hget2:((F++l.drop F.length).map reAV)[F.length]?=some (reAV r2):=by
      rw[getElem?_map,List.getElem?_append_right (Nat.le_refl _),getElem?_drop,show F.length+(F.length-F.length)=F.length by omega,hr2];rfl
     have hd2:(reC r2).drop 8=[]:=List.drop_of_length_le (by rw[AK];omega);have hset:((F++l.drop F.length).map reAV).set F.length (reAV z)=((F++[z])++l.drop (F++[z]).length).map reAV:=by
      rw[<- List.map_set,List.set_append_right _ _ (Nat.le_refl _),Nat.sub_self];have:l.drop F.length=l[F.length]'(by omega)::l.drop (F.length+1):=List.drop_eq_getElem_cons (by omega);rw[this,List.set_cons_zero,length_append,List.append_assoc];rfl
     have hpE:=AH ((F++[z])++l.drop (F++[z]).length);generalize ((F++[z])++l.drop (F++[z]).length).map reAV=E2 at *;generalize hE:(F++l.drop F.length).map reAV=E at *;simp +contextual (disch:=omega) only[Tryz.f113,F6,go_sem,simprocAttr,Fw,↓AE,↓AC,↓AB,↓AA,hrow,hlen2,gy,gz,hqlt,hqlt2,hw2,h114,AK,AJ,AP,hFi,hFn,hget2,hd2,hset];repeat' (first|intro _|apply And.intro|(unfold dOk;kernel_rfl)|exact St.beq_refl _|exact AQ|(show altO _ _ _ _=true;kernel_rfl)|(show (_||_)=true;kernel_rfl)|(show (_&&_)=true;kernel_rfl))
     rw[List.set_set];exact AN (n:=H.length) rfl rfl (by rfl) (take_of_length_le (by simp)) (by simp[AV.underL,AV.under,hid]) ((hH.set hpE).all _)
   ·intro _;rw[show s+2+(n-(s+2))=n by omega,take_of_length_le (by omega)];have hle2:(compactR l).length<=l.length:=Bu _ l (Nat.le_refl _);have hx:¬ ((n-(s+2)+1:Nat):Int)<((n-(s+1):Nat):Int):=by omega
    have hmi:((compactR l).length:Int)<=(n:Int):=by omega
    have hrow:(H.set id (.row 8 ((compactR l++l.drop (compactR l).length).map reAV) 0))[id]?=some (.row 8 ((compactR l++l.drop (compactR l).length).map reAV) 0):=List.getElem?_set_self hid;have hlen3:((compactR l++l.drop (compactR l).length).map reAV).length=n:=by simp;omega
    have htk:((compactR l++l.drop (compactR l).length).map reAV).take (compactR l).length=(compactR l).map reAV:=by
     rw[<- map_take,List.take_left' rfl]
    have hclr:evClear Pg (H.set id (.row 8 ((compactR l++l.drop (compactR l).length).map reAV) 0)) 24 (.ms id 8 n (compactR l).length (n-(compactR l).length))=some (H.set id (.row 8 ((compactR l).map reAV++zerosR (n-(compactR l).length)) 0)):=by
     unfold evClear;have hg:getRow (H.set id (.row 8 ((compactR l++l.drop (compactR l).length).map reAV) 0)) id=some (8,(compactR l++l.drop (compactR l).length).map reAV,0):=by unfold getRow;rw[hrow]
     have e1:tyElem Pg 24=some 26:=by kernel_rfl
     have e2:tyZero Pg 26=some zeR:=by kernel_rfl
     simp only[hg,e1,e2];rw[if_neg (by omega),if_pos ⟨⟨hlen3,trivial,by omega⟩,⟨by omega,trivial,rfl⟩,rfl⟩,htk,List.set_set];rfl
    generalize (compactR l++l.drop (compactR l).length).map reAV=E at *;simp +contextual (disch:=omega) only[Tryz.f113,F6,go_sem,simprocAttr,Fw,↓AE,↓AC,↓AB,↓AA,hrow,hlen3,hx,hmi,hclr,hle2];rw[Nat.sub_zero];exact rp _ _ _
   ·rw[Nat.add_zero,show s+2=s+1+1 by omega,hat,List.length_take,Nat.min_eq_left (by omega),List.take_append_drop,hsame];exact AN (n:=H.length) rfl rfl (by rfl) take_length (by simp[AV.underL,AV.under,hid]) (hH.all _)
  ·rw[if_neg hc,hinv,<- AZ hz]at hat;rw[decide_eq_false hc]at h114;simp +contextual (disch:=omega) only[Tryz.f113,F6,go_sem,simprocAttr,Fw,↓AE,↓AC,↓AB,↓AA,hr,hlen,gy,gz,hlt,hlt2,hw1,h114,AK,AJ,AP];repeat' (first|intro _|apply And.intro|(unfold dOk;kernel_rfl)|exact St.beq_refl _|exact AQ|(show altO _ _ _ _=true;kernel_rfl)|(show (_||_)=true;kernel_rfl)|(show (_&&_)=true;kernel_rfl))
   ·exact hat
   ·exact AN (n:=H.length) rfl rfl (by rfl) take_length (by simp[AV.underL,AV.under,hid]) (hH.all _)
 ·intro hinv;rw[show n-1+1=n by omega,take_of_length_le (by omega)]at hinv;rw[hnone hinv,hinv,hn];have hx:¬ ((n-1+1:Nat):Int)<(n:Int):=by omega
  simp +contextual (disch:=omega) only[Tryz.f113,F6,go_sem,simprocAttr,Fw,↓AE,↓AC,↓AB,↓AA,hx];exact rp _ _ _
 ·match l,hn with
  | [],hn=>simp at hn;omega
  | x::l,_=>simp[compactR]
 ·exact AN (n:=H.length) rfl rfl (by rfl) take_length (by simp[AV.underL,AV.under,hid]) (hH.all _)
end
end Go.Ev
