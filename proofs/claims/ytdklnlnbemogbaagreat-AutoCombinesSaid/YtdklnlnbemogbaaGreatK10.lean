/- What functions of the program compute; no further conditions. -/
import Derived.Test.YtdklnlnbemogbaaGreatK09
set_option linter.unusedVariables false
set_option linter.unusedSimpArgs false
set_option maxHeartbeats 4000000
set_option maxRecDepth 100000
namespace Go.Ev
open Go.Proofs Go.RowKit Go.IntWalk
abbrev I (n:Int):AV:=.int .i64 n
theorem AF (l:List Int):AV.plainL (l.map I)=true:=by
 induction l with
 | nil=>rfl
 | cons a l ih=>simp[AV.plainL,ih];rfl
abbrev spanAV (p:Int×Int):AV:=.agg [I p.1,I p.2]
theorem AH (l:List (Int×Int)):AV.plainL (l.map spanAV)=true:=by
 induction l with
 | nil=>rfl
 | cons a l ih=>simp[AV.plainL,ih];rfl
structure Ins where
 op:Int
 x:Int
 y:Int
 n:Int
 set:List (Int×Int)
abbrev insAV (i:Ins):AV:=.agg [I i.op,I i.x,I i.y,I i.n,.sl false (i.set.map spanAV)]
structure Prg where
 ins:List Ins
 caps:Int
 runes:Bool
abbrev prgAV (g:Prg):AV:=.agg [.sl false (g.ins.map insAV),I g.caps,.bool g.runes]
theorem AK (l:List Ins):AV.plainL (l.map insAV)=true:=by
 induction l with
 | nil=>rfl
 | cons a l ih=>simp[AV.plainL,AV.plain,insAV,ih,AH]
theorem AM (g:Prg):AV.plain (prgAV g)=true:=by
 simp[prgAV,AV.plain,AV.plainL,AK]
inductive Re where
 | mk (op:Int) (set:List (Int×Int)) (kids:List Re) (mn mx md n:Int) (neg:Bool)
mutual
def reC:Re->List AV
 | .mk op set kids mn mx md n neg=>[I op,.sl false (set.map spanAV),.sl false (reL kids),I mn,I mx,I md,I n,.bool neg]
def reL:List Re->List AV
 | []=>[]
 | k::ks=>.agg (reC k)::reL ks
end
mutual
def Re.size:Re->Nat
 | .mk _ _ kids _ _ _ _ _=>1+Re.sizeL kids
def Re.sizeL:List Re->Nat
 | []=>0
 | k::ks=>Re.size k+Re.sizeL ks
end
mutual
def Re.depth:Re->Nat
 | .mk _ _ kids _ _ _ _ _=>1+Re.depthL kids
def Re.depthL:List Re->Nat
 | []=>0
 | k::ks=>max (Re.depth k) (Re.depthL ks)
end
mutual
def nullG:Re->Bool
 | .mk op set kids mn mx md n neg=>
   if op=1 then false else if op=2 then nullAll kids else if op=3∨op=10 then nullAny kids else if op=4 then decide (mn<=0)||nullHd kids else if op=5∨op=9 then nullHd kids else true
def nullAll:List Re->Bool
 | []=>true
 | k::ks=>nullG k&&nullAll ks
def nullAny:List Re->Bool
 | []=>false
 | k::ks=>nullG k||nullAny ks
def nullHd:List Re->Bool
 | []=>false
 | k::_=>nullG k
end
mutual
def compG (inside:List Int):Re->Bool
 | .mk op set kids mn mx md n neg=>
   if op=4/\(md=2∨nullHd kids=true) then false
   else if op=5 then(if n∈inside then false else compL (inside++[n]) kids)
   else if 5<op/\op≠11 then false else compL inside kids
def compL (inside:List Int):List Re->Bool
 | []=>true
 | k::ks=>compG inside k&&compL inside ks
end
noncomputable def ext49 (args:List AV) (H:List MB):Option (AV×List MB):=by
 classical
 exact if h:∃ re:Re,args=[.pt (reC re),.sl true []]/\H=[]/\CallSound Pg 97 args [] (.bool (compG [] re)) [] then some (.bool (compG [] h.choose),[]) else none
theorem MU {args:List AV}{H H':List MB}{r:AV} (h:ext49 args H=some (r,H')):CallSound Pg 97 args H r H':=by
 unfold ext49 at h;split at h
 ·rename_i h1;simp only[Option.some.injEq,Prod.mk.injEq]at h;obtain⟨rfl,rfl⟩:=h;have hs:=h1.choose_spec;generalize h1.choose=re at hs |-;obtain⟨e1,e2,e3⟩:=hs;subst e2;exact e3
 ·cases h
end Go.Ev
