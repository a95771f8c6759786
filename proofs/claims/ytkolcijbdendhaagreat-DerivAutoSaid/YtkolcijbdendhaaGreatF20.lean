/- A library's sort of a block of our own, whose elements are integers or structs of integers, by a comparison that only reads: from the kit's contract. -/
import Derived.Test.YtkolcijbdendhaaGreatF08
import Derived.Shelf.GgSortFunc.RowK
import Derived.Shelf.GgSortFunc.InsertionK
import Derived.Sort.AssemblyPlain
import Derived.Shelf.SlSortCmp.Insertion
set_option linter.unusedVariables false
set_option linter.unusedSimpArgs false
namespace Go.Ev
open Go.RowKit Go.Sort Go.Proofs
def wrapV (k:Nat) (vs:List Value):Value:=if k=1 then vs.headD undef else .agg vs.toArray
variable {P:Program}{B0:Nat}{w0:Base}{w:World}{I:Imm}{H:List MB}{L:List Lay}
theorem PE {w w':World} (h:BelowD w.heap.size w w'):∃ q os,w' = grow (w.drewN q) os:=by
 refine⟨w'.drawn-w.drawn,w'.heap.extract w.heap.size w'.heap.size,?_⟩;have hd:=h.drawn;have hh:w'.heap=w.heap++w'.heap.extract w.heap.size w'.heap.size:=by
  have h1:w'.heap.extract 0 w.heap.size=w.heap:=by
   apply Array.ext_getElem?;intro k;rw[Array.getElem?_extract];have:=h.size;by_cases hk:k<w.heap.size
   ·rw[if_pos (by omega),Nat.zero_add];exact h.block k hk
   ·rw[if_neg (by omega),Array.getElem?_eq_none (by omega)]
  have h2:=@Array.extract_append_extract _ w'.heap 0 w.heap.size w'.heap.size;rw[h1]at h2;rw[h2];have:=h.size;simp[Nat.max_eq_right this]
 obtain⟨a1,a2,a3,a4,a5⟩:=w';obtain⟨b1,b2,b3,b4,b5⟩:=w;have e1:=h.os;have e2:=h.tape;have e3:=h.output;simp only[]at e1 e2 e3 hh hd;simp only[grow,World.drewN];congr 1;omega
def SortCon (P:Program) (f k:Nat):Prop:=
 ∀(α:Type) (_:Inhabited α) (enc:α->List Value) (_:∀ x,(enc x).length=k) (_:∀ x,∀ v∈enc x,v.oneCell' = true) (cf:α->α->Int) (_:SWO (ltOf cf)) (g:Nat) (cb:Array Value) (blk off cap:Nat) (d:Array α) (w:World)
  (_:∀ args w,(callFunc g args).run P w=.ok (.enter g args) w)
  (_:∀(m:Nat) (os:Array Obj) (dk:Array α),dk.size=d.size->∀ x y:α,Calls P g (#[wrapV k (enc x),wrapV k (enc y)]++cb) (sortWorldK enc k w blk off m dk os) fun e w'=>e=.returned (.int .i64 (cf x y))/\∃ q os',w' = grow ((sortWorldK enc k w blk off m dk os).drewN q) os')
  (_:HoldsK enc k w blk off d) (_:blk<w.heap.size) (_:d.size<4611686018427387904),
  Calls P f #[.slice (some ⟨blk,off,none⟩) d.size cap,.func (.func g) #[] cb] w fun e w'=>
   e=.returned (.tuple #[])/\∃ n os,w' = sortWorldK enc k w blk off n (pdq (ltOf cf) d 0 d.size (Lib.bitLen d.size) true true) os
theorem FH (w:World) (b:Nat) (f:Array Value->Array Value) {cs:Array Value}{T:TypeId}{fr:Nat×Nat} (h:w.heap[b]?=some (.cells cs T fr)):mapBlock w b f=w.setRow b (f cs):=by
 unfold mapBlock World.setRow;congr 1;apply Array.ext_getElem?;intro k;simp only[Array.getElem?_modify];by_cases hk:b=k
 ·subst hk;simp[h,onCells]
 ·simp[hk]
end Go.Ev
