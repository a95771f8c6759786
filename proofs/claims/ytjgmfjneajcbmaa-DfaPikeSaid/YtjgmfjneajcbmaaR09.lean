/- Functions of the program, each with what it computes; no further conditions. -/
import Derived.Test.YtjgmfjneajcbmaaR07
import Derived.Test.YtjgmfjneajcbmaaR08
set_option linter.unusedVariables false
set_option linter.unusedSimpArgs false
namespace Go.Ev
open Go.Proofs Go.RowKit Go.IntWalk
set_option maxRecDepth 100000
set_option maxHeartbeats 4000000
abbrev I (n:Int):AV:=.int .i64 n
theorem plain_ints (l:List Int):AV.plainL (l.map I)=true:=by
 induction l with
 | nil=>rfl
 | cons a l ih=>simp[AV.plainL,ih];rfl
abbrev spanAV (p:Int×Int):AV:=.agg [I p.1,I p.2]
theorem plain_span (l:List (Int×Int)):AV.plainL (l.map spanAV)=true:=by
 induction l with
 | nil=>rfl
 | cons a l ih=>simp[AV.plainL,ih];rfl
structure Ins where
 op:Int
 x:Int
 y:Int
 n:Int
 set:List (Int×Int)
abbrev insAV (i:Ins):AV:=.agg [I i.op,I i.x,I i.y,I i.n,.sl false (i.set.map spanAV)]
structure Prg where
 ins:List Ins
 caps:Int
 runes:Bool
abbrev prgAV (g:Prg):AV:=.agg [.sl false (g.ins.map insAV),I g.caps,.bool g.runes]
theorem plain_ins (l:List Ins):AV.plainL (l.map insAV)=true:=by
 induction l with
 | nil=>rfl
 | cons a l ih=>simp[AV.plainL,AV.plain,insAV,ih,plain_span]
theorem plain_prg (g:Prg):AV.plain (prgAV g)=true:=by
 simp[prgAV,AV.plain,AV.plainL,plain_ins]
inductive Re where
 | mk (op:Int) (set:List (Int×Int)) (kids:List Re) (mn mx md n:Int) (neg:Bool)
mutual
def Re.size:Re→Nat
 | .mk _ _ kids _ _ _ _ _=>1+Re.sizeL kids
def Re.sizeL:List Re→Nat
 | []=>0
 | k::ks=>Re.size k+Re.sizeL ks
end
mutual
def Re.depth:Re→Nat
 | .mk _ _ kids _ _ _ _ _=>1+Re.depthL kids
def Re.depthL:List Re→Nat
 | []=>0
 | k::ks=>max (Re.depth k) (Re.depthL ks)
end
end Go.Ev
