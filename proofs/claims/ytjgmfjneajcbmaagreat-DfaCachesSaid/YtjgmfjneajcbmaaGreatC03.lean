/- Maps. -/
import Derived.Test.YtjgmfjneajcbmaaGreatC02
import Derived.MapKept
import Derived.WideKeyRuns
import Derived.Laws.BytesString
set_option linter.unusedVariables false
set_option linter.unusedSimpArgs false
namespace Go.Ev
open Go.RowKit Go.MapKept
variable {P:Program} {B0:Nat} {w0:Base} {w:World} {I:Imm} {H:List MB} {L:List Lay}
def KeyT (P:Program):KK→TypeId→Prop
 | .int k,kt=>P.underlying kt=some (.int k)
 | .str,kt=>P.underlying kt=some .string
 | .flat _ ks,kt=>flatKinds P kt=some (ks.map Option.isSome)∧keyKinds P kt=some ks
theorem kindT_eq {t:TypeId} {q:KK} {e:TypeId} (h:kindT P t=some (q,e)):∃ kt,P.underlying t=some (.map kt e)∧KeyT P q kt:=by
 unfold kindT at h
 split at h
 ·rename_i kt e' h1
  split at h
  ·rename_i k h2
   simp only[Option.some.injEq,Prod.mk.injEq]at h
   obtain⟨rfl,rfl⟩:=h
   exact⟨kt,h1,h2⟩
  ·rename_i h2
   simp only[Option.some.injEq,Prod.mk.injEq]at h
   obtain⟨rfl,rfl⟩:=h
   exact⟨kt,h1,h2⟩
  ·split at h
   ·rename_i l ks h3 h4
    split at h
    ·rename_i h5
     simp only[Option.some.injEq,Prod.mk.injEq]at h
     obtain⟨rfl,rfl⟩:=h
     subst h5
     exact⟨kt,h1,h3,h4⟩
    ·cases h
   ·cases h
 ·cases h
def cellV:AV→Value
 | .int k n=>.int k n
 | .bool b=>.bool b
 | _=>undef
theorem cellsOk_get:∀ {ks:List (Option IntKind)} {cs:List AV},cellsOk ks cs=true→cs.length=ks.length∧∀(i:Nat) (c:AV),cs[i]?=some c→(∃ k n,ks[i]?=some (some k)∧c=.int k n)∨(∃ b,ks[i]?=some none∧c=.bool b)
 | [],[],_=>⟨rfl,fun i c h=>by simp at h⟩
 | [],_::_,h=>by simp[cellsOk]at h
 | some k::ks,[],h=>by simp[cellsOk]at h
 | none::ks,[],h=>by simp[cellsOk]at h
 | some k::ks,c::cs,h=>by
   cases c<;>simp[cellsOk]at h
   obtain⟨rfl,h⟩:=h
   obtain⟨a,b⟩:=cellsOk_get h
   exact⟨by simp[a],fun i c hc=>by
    cases i with
    | zero=>simp at hc;subst hc;exact .inl ⟨_,_,rfl,rfl⟩
    | succ i=>simpa using b i c (by simpa using hc)⟩
 | none::ks,c::cs,h=>by
   cases c<;>simp[cellsOk]at h
   obtain⟨a,b⟩:=cellsOk_get h
   exact⟨by simp[a],fun i c hc=>by
    cases i with
    | zero=>simp at hc;subst hc;exact .inr ⟨_,rfl,rfl⟩
    | succ i=>simpa using b i c (by simpa using hc)⟩
theorem cellsOk_val {ks:List (Option IntKind)} {cs:List AV} (h:cellsOk ks cs=true) {v:Value} (hr:Rep I L (.agg cs) v):v=.agg (cs.map cellV).toArray:=by
 obtain⟨h1,h2⟩:=cellsOk_get h
 cases hr with
 | agg _ ws hn hs hR=>
   congr 1
   apply Array.ext
   ·simp[hn]
   ·intro i g1 g2
    have hi:i < cs.length:=by rw[hn]at g1;exact g1
    have hc:cs[i]?=some cs[i]:=List.getElem?_eq_getElem hi
    have hr:=hR i _ hc
    have hg:ws.getD i undef=ws[i]:=by simp[Array.getD_eq_getD_getElem?,g1]
    rw[hg]at hr
    simp only[List.getElem_toArray,List.getElem_map]
    generalize ws[i]=u at hr ⊢
    rcases h2 i _ hc with ⟨k,n,_,e⟩|⟨b,_,e⟩
    ·rw[e]at hr ⊢;cases hr;rfl
    ·rw[e]at hr ⊢;cases hr;rfl
theorem cellsOk_beq:∀ {ks:List (Option IntKind)} {cs ds:List AV},cellsOk ks cs=true→cellsOk ks ds=true→(AV.beqL cs ds=true↔cs.map cellV=ds.map cellV)
 | [],[],[],_,_=>by simp[AV.beqL]
 | [],_::_,_,h,_=>by simp[cellsOk]at h
 | [],[],_::_,_,h=>by simp[cellsOk]at h
 | some k::ks,[],_,h,_=>by simp[cellsOk]at h
 | some k::ks,_::_,[],_,h=>by simp[cellsOk]at h
 | none::ks,[],_,h,_=>by simp[cellsOk]at h
 | none::ks,_::_,[],_,h=>by simp[cellsOk]at h
 | some k::ks,c::cs,d::ds,h,h'=>by
   cases c<;>simp[cellsOk]at h
   cases d<;>simp[cellsOk]at h'
   obtain⟨rfl,h⟩:=h
   obtain⟨rfl,h'⟩:=h'
   simp[AV.beqL,AV.beq,cellV,cellsOk_beq h h']
 | none::ks,c::cs,d::ds,h,h'=>by
   cases c<;>simp[cellsOk]at h
   cases d<;>simp[cellsOk]at h'
   simp[AV.beqL,AV.beq,cellV,cellsOk_beq h h']
theorem cellsOk_eq:∀ {ks:List (Option IntKind)} {cs ds:List AV},cellsOk ks cs=true→cellsOk ks ds=true→eqCells (ks.map Option.isSome) cs ds=some (AV.beqL cs ds)
 | [],[],[],_,_=>by simp[AV.beqL,eqCells]
 | [],_::_,_,h,_=>by simp[cellsOk]at h
 | [],[],_::_,_,h=>by simp[cellsOk]at h
 | some k::ks,[],_,h,_=>by simp[cellsOk]at h
 | some k::ks,_::_,[],_,h=>by simp[cellsOk]at h
 | none::ks,[],_,h,_=>by simp[cellsOk]at h
 | none::ks,_::_,[],_,h=>by simp[cellsOk]at h
 | some k::ks,c::cs,d::ds,h,h'=>by
   cases c<;>simp[cellsOk]at h
   cases d<;>simp[cellsOk]at h'
   obtain⟨rfl,h⟩:=h
   obtain⟨rfl,h'⟩:=h'
   simp only[List.map_cons,Option.isSome_some,eqCells,if_true,cellsOk_eq h h',Option.map_some,AV.beqL,AV.beq,decide_true,Bool.true_and];rfl
 | none::ks,c::cs,d::ds,h,h'=>by
   cases c<;>simp[cellsOk]at h
   cases d<;>simp[cellsOk]at h'
   simp[AV.beqL,AV.beq,eqCells,cellsOk_eq h h']
theorem key_wide {kt:TypeId} {l:List Bool} (h:flatKinds P kt=some l):(match P.underlying kt with|some (.array _ _)|some (.struct _)=>true|_=>false)=true:=by
 unfold flatKinds at h
 split at h
 ·rename_i fs hu;rw[hu]
 ·rename_i n e hu;rw[hu]
 ·cases h
theorem key_same {q:KK} {x y:AV} {u v:Value} (hx:keyOk q x=true) (hy:keyOk q y=true) (hu:Rep I L x u) (hv:Rep I L y v):(AV.beq x y=true↔u=v):=by
 cases q with
 | int k=>
   cases x<;>simp[keyOk]at hx
   cases y<;>simp[keyOk]at hy
   subst hx;subst hy
   cases hu;cases hv
   simp[AV.beq]
 | str=>
   cases x<;>simp[keyOk]at hx
   cases y<;>simp[keyOk]at hy
   cases hu;cases hv
   simp[AV.beq]
 | flat T ks=>
   cases x<;>simp[keyOk]at hx
   cases y<;>simp[keyOk]at hy
   rw[cellsOk_val hx hu,cellsOk_val hy hv]
   simp only[AV.beq,Value.agg.injEq,Array.mk.injEq]
   exact cellsOk_beq hx hy
theorem check_items (em:Bool) (d:Nat) {e:TypeId} {k:IntKind} (hu:P.underlying e=some (.int k)) {inf:TypeInfo} (hi:P.info? e=some inf) (hs:inf.size=1) (xs:Array Value) (n:Nat) (hx:∀ j,j < n→∃ k' m,xs[j]?=some (.int k' m)) {t:TypeId}
  (ht:P.underlying t=some (.array n e)):(Instr.checkKey em (d+2) t (.agg xs)).run P w=.ok () w:=by
 have hagg:tyAgg P e=some false:=by simp[tyAgg,hu]
 rw[Instr.checkKey]
 simp only[Sem.run_bind,run_underlying ht,Result.andThen_ok]
 simp only[Std.Legacy.Range.forIn_eq_forIn_range',Std.Legacy.Range.size,Nat.sub_zero,Nat.add_one_sub_one,Nat.div_one]
 have each:∀ j∈List.range' 0 n,∃ k' m,xs[j]?=some (.int k' m):=fun j hj=>hx j (by simp[List.mem_range']at hj;omega)
 generalize List.range' 0 n=is at each
 induction is with
 | nil=>simp
 | cons j is ih=>
   obtain⟨k',m,hj⟩:=each j (by simp)
   have p1:(part e xs (j * P.cellsOf e)).run P w=.ok (.int k' m) w:=by
    unfold part
    have hc1:P.cellsOf e=1:=by simp[Program.cellsOf,hi,hs]
    simp only[Sem.run_bind,tyAgg_run hagg,Result.andThen_ok,Sem.run_ite,hc1,Nat.mul_one,hj]
    rfl
   have p2:(Instr.checkKey em (d+1) e (.int k' m)).run P w=.ok () w:=by
    simp[Instr.checkKey,run_underlying hu]
   simp only[List.forIn_cons,Sem.run_bind,run_sizeOf w hi,Result.andThen_ok,p1,p2,Sem.run_pure]
   exact ih (fun y hy=>each y (by simp[hy]))
theorem check_fields (em:Bool) (d:Nat) (xs:Array Value) {t:TypeId} {fs:Array Field} (ht:P.underlying t=some (.struct fs)) (hx:∀ f∈fs.toList,f.name ≠ "_"∧((∃ k k' m,P.underlying f.type=some (.int k)∧xs[f.offset]?=some (.int k' m))∨(∃ b,P.underlying f.type=some .bool∧xs[f.offset]?=some (.bool b)))) :
  (Instr.checkKey em (d+2) t (.agg xs)).run P w=.ok () w:=by
 rw[Instr.checkKey]
 simp only[Sem.run_bind,run_underlying ht,Result.andThen_ok]
 rw[← Array.forIn_toList]
 generalize fs.toList=M at hx
 induction M with
 | nil=>simp
 | cons f M ih=>
   obtain⟨hn,hf⟩:=hx f (by simp)
   have key:∃ a,(part f.type xs f.offset).run P w=.ok a w∧(Instr.checkKey em (d+1) f.type a).run P w=.ok () w:=by
    rcases hf with ⟨k,k',m,hu,hj⟩|⟨b,hu,hj⟩
    ·have hagg:tyAgg P f.type=some false:=by simp[tyAgg,hu]
     refine⟨.int k' m,?_,by simp[Instr.checkKey,run_underlying hu]⟩
     unfold part
     simp only[Sem.run_bind,tyAgg_run hagg,Result.andThen_ok,Sem.run_ite,hj]
     rfl
    ·have hagg:tyAgg P f.type=some false:=by simp[tyAgg,hu]
     refine⟨.bool b,?_,by simp[Instr.checkKey,run_underlying hu]⟩
     unfold part
     simp only[Sem.run_bind,tyAgg_run hagg,Result.andThen_ok,Sem.run_ite,hj]
     rfl
   obtain⟨a,p1,p2⟩:=key
   simp only[List.forIn_cons,Sem.run_bind,hn,ne_eq,not_false_eq_true,if_true,Result.andThen_ok,p1,p2,Sem.run_pure]
   exact ih (fun y hy=>hx y (by simp[hy]))
theorem cellKinds_get:∀(fs:List Field) (i:Nat) (ks:List (Option IntKind)) (l:List Bool),cellKinds P fs=some ks→flatFields P i fs=some l→∀ f∈fs,f.name ≠ "_"∧∃ j,f.offset=i+j∧((∃ k,ks[j]?=some (some k)∧P.underlying f.type=some (.int k))∨(ks[j]?=some none∧P.underlying f.type=some .bool))
 | [],_,_,_,_,_,f,hf=>by cases hf
 | g::fs,i,ks,l,hk,hl,f,hf=>by
   simp only[flatFields]at hl
   split at hl
   ·rename_i hc
    obtain⟨c1,c2⟩:=hc
    cases hu:P.underlying g.type with
    | none=>simp[cellKinds,hu]at hk
    | some d=>
      cases hks:cellKinds P fs with
      | none=>cases d<;>simp[cellKinds,hu,hks]at hk
      | some ks'=>
        cases hls:flatFields P (i+1) fs with
        | none=>cases d<;>simp[hu,hls]at hl
        | some l'=>
          have ih:=cellKinds_get fs (i+1) ks' l' hks hls
          rcases List.mem_cons.1 hf with rfl|hf
          ·cases d<;>simp[cellKinds,hu,hks]at hk
           ·subst hk;exact⟨c2,0,c1,.inr ⟨rfl,hu⟩⟩
           ·subst hk;exact⟨c2,0,c1,.inl ⟨_,rfl,hu⟩⟩
          ·obtain⟨a1,j,a2,a3⟩:=ih f hf
           refine⟨a1,j+1,by omega,?_⟩
           cases d<;>simp[cellKinds,hu,hks]at hk
           ·subst hk;simpa using a3
           ·subst hk;simpa using a3
   ·cases hl
theorem key_check {q:KK} {kt:TypeId} (hq:KeyT P q kt) {x:AV} {u:Value} (hx:keyOk q x=true) (hu:Rep I L x u) (em:Bool):(Instr.checkKey em 10000 kt u).run P w=.ok () w:=by
 cases q with
 | int k=>
   cases x<;>simp[keyOk]at hx
   cases hu
   have hq:P.underlying kt=some (.int k):=hq
   show (Instr.checkKey em (9999+1) kt _).run P w=_
   rw[Instr.checkKey]
   simp[run_underlying hq]
 | str=>
   cases x<;>simp[keyOk]at hx
   cases hu
   have hq:P.underlying kt=some .string:=hq
   show (Instr.checkKey em (9999+1) kt _).run P w=_
   rw[Instr.checkKey]
   simp[run_underlying hq]
 | flat T ks=>
   obtain⟨q1,q2⟩:=hq
   cases x<;>simp[keyOk]at hx
   rename_i cs
   rw[cellsOk_val hx hu]
   obtain⟨h1,h2⟩:=cellsOk_get hx
   unfold flatKinds at q1
   unfold keyKinds at q2
   split at q1
   ·rename_i fs hus
    rw[hus]at q2
    simp only at q2
    split at q1
    ·refine check_fields em 9998 _ hus fun f hf=>?_
     obtain⟨a1,j,a2,a3⟩:=cellKinds_get fs.toList 0 ks _ q2 q1 f hf
     refine⟨a1,?_⟩
     rw[Nat.zero_add]at a2
     rw[a2]
     rcases a3 with ⟨k,b1,b2⟩|⟨b1,b2⟩
     ·have hj:j < cs.length:=by rw[h1];exact(List.getElem?_eq_some_iff.1 b1).1
      rcases h2 j _ (List.getElem?_eq_getElem hj) with ⟨k',n,c1,c2⟩|⟨b,c1,c2⟩
      ·exact .inl ⟨k,k',n,b2,by simp[hj,c2,cellV]⟩
      ·rw[b1]at c1;cases c1
     ·have hj:j < cs.length:=by rw[h1];exact(List.getElem?_eq_some_iff.1 b1).1
      rcases h2 j _ (List.getElem?_eq_getElem hj) with ⟨k',n,c1,c2⟩|⟨b,c1,c2⟩
      ·rw[b1]at c1;cases c1
      ·exact .inr ⟨b,b2,by simp[hj,c2,cellV]⟩
    ·cases q1
   ·rename_i n e hus
    rw[hus]at q2
    simp only at q2
    split at q1
    ·split at q1
     ·rename_i k hue hse
      rw[hue]at q2
      simp only[Option.some.injEq]at q2
      subst q2
      obtain⟨inf,hinf,hsz⟩:∃ inf,P.info? e=some inf∧inf.size=1:=by
       unfold tySz at hse
       cases hi:P.info? e with
       | none=>rw[hi]at hse;simp at hse
       | some inf=>rw[hi]at hse;simp at hse;exact⟨inf,rfl,hse⟩
      refine check_items em 9998 hue hinf hsz _ n (fun j hj=>?_) hus
      have hj':j < cs.length:=by rw[h1];simpa using hj
      rcases h2 j _ (List.getElem?_eq_getElem hj') with ⟨k',m,c1,c2⟩|⟨b,c1,c2⟩
      ·exact⟨k',m,by simp[hj',c2,cellV]⟩
      ·rw[List.getElem?_replicate,if_pos hj]at c1;cases c1
     ·cases q1
    ·cases q1
   ·cases q1
theorem key_stays {q:KK} {x:AV} {u:Value} (hx:keyOk q x=true) (hu:Rep I L x u):(Instr.keyThatStays u u).run P w=.ok u w:=by
 have hs:Instr.sameBits 10000 u u=true:=by
  cases q with
  | int k=>cases x<;>simp[keyOk]at hx;cases hu;simp[Instr.sameBits]
  | str=>cases x<;>simp[keyOk]at hx;cases hu;simp[Instr.sameBits,MapKept.bytes_beq]
  | flat T ks=>
    cases x<;>simp[keyOk]at hx
    rename_i cs
    rw[cellsOk_val hx hu]
    obtain⟨h1,h2⟩:=cellsOk_get hx
    show Instr.sameBits (9999+1) _ _=true
    simp only[Instr.sameBits,beq_self_eq_true,Bool.true_and,List.all_eq_true]
    intro p hp
    obtain⟨i,hi,e⟩:=List.getElem_of_mem hp
    rw[List.getElem_zip]at e
    rw[← e]
    simp only[List.getElem_map]
    have hi':i < cs.length:=by simpa using hi
    rcases h2 i _ (List.getElem?_eq_getElem hi') with ⟨k,n,_,c⟩|⟨b,_,c⟩
    ·simp[c,cellV,Instr.sameBits]
    ·simp[c,cellV,Instr.sameBits]
 simp[Instr.keyThatStays,hs]
def EntsOk (I:Imm) (L:List Lay) (q:KK) (es:List (AV×AV)) (ents:List MapEntry):Prop:=
 ents.length=es.length∧∀(i:Nat) (k v:AV),es[i]?=some (k,v)→keyOk q k=true∧∃ e:MapEntry,ents[i]?=some e∧Rep I L k e.key∧Rep I L v e.val
theorem EntsOk.tail {q:KK} {p:AV×AV} {es:List (AV×AV)} {e:MapEntry} {ents:List MapEntry} (h:EntsOk I L q (p::es) (e::ents)):EntsOk I L q es ents:=
 ⟨by have:=h.1;simpa using this,fun i k v hi=>by simpa using h.2 (i+1) k v (by simpa using hi)⟩
theorem EntsOk.head {q:KK} {k v:AV} {es:List (AV×AV)} {e:MapEntry} {ents:List MapEntry} (h:EntsOk I L q ((k,v)::es) (e::ents)):keyOk q k=true∧Rep I L k e.key∧Rep I L v e.val:=by
 obtain⟨h1,e',h2,h3,h4⟩:=h.2 0 k v rfl
 simp at h2;subst h2
 exact⟨h1,h3,h4⟩
theorem key_now {k:IntKind} {x y:AV} {u v:Value} (hx:keyOk (.int k) x=true) (hy:keyOk (.int k) y=true) (hu:Rep I L x u) (hv:Rep I L y v):Instr.sameNow (.int k) u v=some (AV.beq x y):=by
 cases x<;>simp[keyOk]at hx
 cases y<;>simp[keyOk]at hy
 subst hx;subst hy
 cases hu;cases hv
 simp only[AV.beq,Instr.sameNow,if_true,decide_true,Bool.true_and];rfl
theorem key_nowS {x y:AV} {u v:Value} (hx:keyOk .str x=true) (hy:keyOk .str y=true) (hu:Rep I L x u) (hv:Rep I L y v):Instr.sameNow .string u v=some (AV.beq x y):=by
 cases x<;>simp[keyOk]at hx
 cases y<;>simp[keyOk]at hy
 cases hu;cases hv
 rename_i a b
 simp only[AV.beq,Instr.sameNow,Option.some.injEq]
 rw[Bool.eq_iff_iff]
 simp[MapKept.bytes_beq]
theorem find_list {q:KK} {x:AV} {u:Value} (hx:keyOk q x=true) (hu:Rep I L x u) (G:List MapEntry→Nat→Result (Option (Nat×Value))→Prop) (hnil:∀ i,G [] i (.ok none w))
  (hcons:∀(y v:AV) (e:MapEntry) (es:List MapEntry) (i:Nat),keyOk q y=true→Rep I L y e.key→(AV.beq y x=true→G (e::es) i (.ok (some (i,e.val)) w))∧(AV.beq y x=false→∀ r,G es (i+1) r→G (e::es) i r)) :
  ∀ {es:List (AV×AV)} {ents:List MapEntry} (i:Nat),EntsOk I L q es ents →
    (findMp x es=none∧G ents i (.ok none w)∧(∀ v,updMp x v es=es++[(x,v)])) ∨
    ∃(j:Nat) (v:AV) (e:MapEntry) (k:AV),findMp x es=some v∧G ents i (.ok (some (i+j,e.val)) w)∧ents[j]?=some e∧es[j]?=some (k,v)∧e.key=u∧Rep I L v e.val∧(∀ v',updMp x v' es=es.set j (k,v'))
 | [],[],i,_=>.inl ⟨rfl,hnil i,fun v=>rfl⟩
 | [],e::ents,i,h=>by have:=h.1;simp at this
 | p::es,[],i,h=>by have:=h.1;simp at this
 | (k,v)::es,e::ents,i,h=>by
   obtain⟨a1,a2,a3⟩:=h.head
   have hk:=key_same a1 hx a2 hu
   obtain⟨g1,g2⟩:=hcons k v e ents i a1 a2
   cases hb:AV.beq k x with
   | true=>exact .inr ⟨0,v,e,k,by simp[findMp,hb],g1 hb,rfl,rfl,hk.1 hb,a3,fun v'=>by simp[updMp,hb]⟩
   | false=>
     rcases find_list hx hu G hnil hcons (i+1) h.tail with ⟨b1,b2,b3⟩|⟨j,v',e',k',b1,b2,b3,b4,b5,b6,b7⟩
     ·exact .inl ⟨by simp[findMp,hb,b1],g2 hb _ b2,fun v'=>by simp[updMp,hb,b3]⟩
     ·exact .inr ⟨j+1,v',e',k',by simp[findMp,hb,b1],by have:=g2 hb _ b2;rwa [show i+1+j=i+(j+1) by omega]at this,by simpa using b3,by simpa using b4,b5,b6,fun v''=>by simp[updMp,hb,b7]⟩
theorem aggEq_sound {T:TypeId} {xs ys:List AV} {a b:Value} (hx:Rep I L (.agg xs) a) (hy:Rep I L (.agg ys) b) {l:List Bool} (hl:flatKinds P T=some l) {r:Bool} (h:eqCells l xs ys=some r) (w:World) :
  (Op.equal T a b).run P w=.ok r w:=by
 cases hx with
 | agg _ ws hn hs hR=>
   cases hy with
   | agg _ ws' hn' hs' hR'=>
     show (Op.equalIn 10000 T (.agg ws) (.agg ws')).run P w=.ok r w
     unfold flatKinds at hl
     split at hl
     ·rename_i fs hu
      split at hl
      ·rename_i hst
       obtain⟨s1,s2⟩:=hst
       have hu':P.underlying T=some (.struct (P.fieldsOf T)):=by simp[Program.fieldsOf,hu]
       have hfs:P.fieldsOf T=fs:=by simp[Program.fieldsOf,hu]
       rw[run_equalIn_struct w 9999 T ws ws' hu' s1,hfs]
       refine eqFields_sound (I:=I) (L:=L) 9998 ws ws' fs.toList 0 l xs ys r hl h (fun j c hj=>?_) (fun j c hj=>?_) w
       ·have hlt:j < ws.size:=by rw[hn];exact(List.getElem?_eq_some_iff.1 hj).1
        exact⟨by simp[hlt],by simpa using hR j c hj⟩
       ·have hlt:j < ws'.size:=by rw[hn'];exact(List.getElem?_eq_some_iff.1 hj).1
        exact⟨by simp[hlt],by simpa using hR' j c hj⟩
      ·simp at hl
     ·rename_i n e hu
      split at hl
      ·split at hl
       ·rename_i k hue hse
        simp at hl;subst hl
        obtain⟨inf,hinf,hsz⟩:∃ inf,P.info? e=some inf∧inf.size=1:=by
         unfold tySz at hse
         cases hi:P.info? e with
         | none=>rw[hi]at hse;simp at hse
         | some inf=>rw[hi]at hse;simp at hse;exact⟨inf,rfl,hse⟩
        have hc1:P.cellsOf e=1:=by simp[Program.cellsOf,hinf,hsz]
        rw[run_equalIn_array w 9999 ws ws' hu hinf,hc1,List.range_eq_range']
        refine eqItems_sound (I:=I) (L:=L) 9998 e hue ws ws' n 0 xs ys r h (fun j c hj=>?_) (fun j c hj=>?_) w
        ·have hlt:j < ws.size:=by rw[hn];exact(List.getElem?_eq_some_iff.1 hj).1
         exact⟨by simp[hlt],by simpa using hR j c hj⟩
        ·have hlt:j < ws'.size:=by rw[hn'];exact(List.getElem?_eq_some_iff.1 hj).1
         exact⟨by simp[hlt],by simpa using hR' j c hj⟩
       ·simp at hl
      ·simp at hl
     ·simp at hl
theorem beqL_comm {ks:List (Option IntKind)} {cs ds:List AV} (h:cellsOk ks cs=true) (h':cellsOk ks ds=true):AV.beqL cs ds=AV.beqL ds cs:=by
 rw[Bool.eq_iff_iff,cellsOk_beq h h',cellsOk_beq h' h,eq_comm]
theorem find_ents {q:KK} {kt:TypeId} (hq:KeyT P q kt) {x:AV} {u:Value} (hx:keyOk q x=true) (hu:Rep I L x u) {es:List (AV×AV)} {ents:List MapEntry} (h:EntsOk I L q es ents) :
   (findMp x es=none∧(Instr.findKey kt u ents).run P w=.ok none w∧(∀ v,updMp x v es=es++[(x,v)])) ∨
   ∃(j:Nat) (v:AV) (e:MapEntry) (k:AV),findMp x es=some v∧(Instr.findKey kt u ents).run P w=.ok (some (j,e.val)) w∧ents[j]?=some e∧es[j]?=some (k,v)∧e.key=u∧Rep I L v e.val∧(∀ v',updMp x v' es=es.set j (k,v')):=by
 have now:∀(d:TypeDesc),P.underlying kt=some d→(∀(y:AV) (v:Value),keyOk q y=true→Rep I L y v→Instr.sameNow d u v=some (AV.beq y x)) →
   (findMp x es=none∧(Instr.findKey kt u ents).run P w=.ok none w∧(∀ v,updMp x v es=es++[(x,v)])) ∨
   ∃(j:Nat) (v:AV) (e:MapEntry) (k:AV),findMp x es=some v∧(Instr.findKey kt u ents).run P w=.ok (some (j,e.val)) w∧ents[j]?=some e∧es[j]?=some (k,v)∧e.key=u∧Rep I L v e.val∧(∀ v',updMp x v' es=es.set j (k,v')):=by
  intro d hd hs
  have run:∀ r,(∃ a,Instr.findNow d u ents 0=some a∧r=.ok a w)→(Instr.findKey kt u ents).run P w=r:=by
   rintro r ⟨a,ha,rfl⟩
   exact MapKept.run_findKey hd ha
  rcases find_list (w:=w) hx hu (fun es i r=>∃ a,Instr.findNow d u es i=some a∧r=.ok a w) (fun i=>⟨_,rfl,rfl⟩)
   (fun y v e es i hy hr=>⟨fun hb=>⟨_,by simp[Instr.findNow,hs y _ hy hr,hb],rfl⟩,fun hb r ⟨a,ha,hr'⟩=>⟨a,by simp[Instr.findNow,hs y _ hy hr,hb,ha],hr'⟩⟩) 0 h with ⟨b1,b2,b3⟩|⟨j,v,e,k,b1,b2,b3,b4,b5,b6,b7⟩
  ·exact .inl ⟨b1,run _ b2,b3⟩
  ·exact .inr ⟨j,v,e,k,b1,by have:=run _ b2;rwa [Nat.zero_add]at this,b3,b4,b5,b6,b7⟩
 cases q with
 | int k=>
   refine now _ hq fun y v hy hr=>?_
   rw[key_now hx hy hu hr]
   congr 1
   rw[Bool.eq_iff_iff,key_same hx hy hu hr,key_same hy hx hr hu,eq_comm]
 | str=>
   refine now _ hq fun y v hy hr=>?_
   rw[key_nowS hx hy hu hr]
   congr 1
   rw[Bool.eq_iff_iff,key_same hx hy hu hr,key_same hy hx hr hu,eq_comm]
 | flat T ks=>
   obtain⟨q1,q2⟩:=hq
   have hw:=key_wide q1
   have run:∀ r,(Instr.findAsking kt u ents 0).run P w=r→(Instr.findKey kt u ents).run P w=r:=by
    intro r hr
    rw[run_findKey_eq w hw];exact hr
   have heq:∀(y:AV) (v:Value),keyOk (.flat T ks) y=true→Rep I L y v→(Op.equal kt u v).run P w=.ok (AV.beq y x) w:=by
    intro y v hy hr
    cases x<;>simp[keyOk]at hx
    cases y<;>simp[keyOk]at hy
    rw[aggEq_sound hu hr q1 (cellsOk_eq hx hy) w]
    simp only[AV.beq]
    rw[beqL_comm hx hy]
   rcases find_list (w:=w) hx hu (fun es i r=>(Instr.findAsking kt u es i).run P w=r) (fun i=>by simp[Instr.findAsking])
    (fun y v e es i hy hr=>⟨fun hb=>by simp[Instr.findAsking,heq y _ hy hr,hb],fun hb r hr'=>by simp[Instr.findAsking,heq y _ hy hr,hb,hr']⟩) 0 h with ⟨b1,b2,b3⟩|⟨j,v,e,k,b1,b2,b3,b4,b5,b6,b7⟩
   ·exact .inl ⟨b1,run _ b2,b3⟩
   ·exact .inr ⟨j,v,e,k,b1,by have:=run _ b2;rwa [Nat.zero_add]at this,b3,b4,b5,b6,b7⟩
theorem Inv.newMap (hi:Inv B0 w0 I H L w) (q:KK) :
  Inv B0 w0 I (H++[.mp q []]) (L++[⟨0,0,w.heap.size,1,0,0⟩]) (w.alloc (.map #[] 0))∧Ext I L I (L++[⟨0,0,w.heap.size,1,0,0⟩]):=by
 have hx:=ext_push I L ⟨0,0,w.heap.size,1,0,0⟩
 have h0:Inv B0 w0 I H L (w.alloc (.map #[] 0)):=hi.same (hi.below.alloc hi.base _) (by rw[World.size_alloc];exact Nat.le_succ_of_le hi.base) (fun b hb=>Below.heap_alloc _ _ _ hb)
 refine⟨⟨h0.below,h0.base,by simp[hi.len],fun id m l hm hl=>?_,fun i j l l' h1 h2 n1 n2 h3=>?_,h0.imm,h0.old⟩,hx⟩
 ·by_cases hid:id < L.length
  ·rw[List.getElem?_append_left hid]at hl
   rw[List.getElem?_append_left (by rw[← hi.len];exact hid)]at hm
   exact MbOk.mono hx (fun _ _=>rfl) (h0.blk id m l hm hl)
  ·have hid':id=L.length:=by
    have:=(List.getElem?_eq_some_iff.1 hl).1
    simp at this;omega
   subst hid'
   rw[List.getElem?_append_right (Nat.le_refl _)]at hl
   rw[hi.len,List.getElem?_append_right (Nat.le_refl _)]at hm
   simp at hl hm
   subst hl;subst hm
   exact⟨rfl,by simp,hi.base,⟨#[],0,(MapKept.heap_alloc w _).1,rfl,fun i k v h=>by simp at h⟩,fun c=>hi.imm_new c⟩
 ·by_cases h1':i < L.length
  ·rw[List.getElem?_append_left h1']at h1
   by_cases h2':j < L.length
   ·rw[List.getElem?_append_left h2']at h2
    exact hi.inj i j l l' h1 h2 n1 n2 h3
   ·rw[List.getElem?_append_right (by omega)]at h2
    have:=hi.lay_lt h1 n1
    have h4:l'.b=w.heap.size:=by
     have:=List.mem_of_getElem? h2
     simp at this;rw[this]
    omega
  ·rw[List.getElem?_append_right (by omega)]at h1
   have h4:l.b=w.heap.size:=by
    have:=List.mem_of_getElem? h1
    simp at this;rw[this]
   by_cases h2':j < L.length
   ·rw[List.getElem?_append_left h2']at h2
    have:=hi.lay_lt h2 n2
    omega
   ·have h5:=(List.getElem?_eq_some_iff.1 h1).1
    rw[List.getElem?_append_right (by omega)]at h2
    have h6:=(List.getElem?_eq_some_iff.1 h2).1
    simp at h5 h6;omega
theorem Inv.setMap (hi:Inv B0 w0 I H L w) {id:Nat} {q:KK} {es es':List (AV×AV)} {l:Lay} (hm:H[id]?=some (.mp q es)) (hl:L[id]?=some l) {ents:Array MapEntry} (clock:Nat)
  (he:EntsOk I L q es' ents.toList):Inv B0 w0 I (H.set id (.mp q es')) L { w with heap:=w.heap.setIfInBounds l.b (.map ents clock) }:=by
 have hb:=hi.blk id _ l hm hl
 obtain⟨ents0,clock0,e0,_⟩:=MapOk.obj hb
 obtain⟨g1,g2⟩:=heap_set (o':=.map ents clock) e0
 have hn:=MapOk.hn hb
 have hid:id < H.length:=(List.getElem?_eq_some_iff.1 hm).1
 have hbl:Below B0 w0.w { w with heap:=w.heap.setIfInBounds l.b (.map ents clock) }:=
  hi.below.trans ⟨rfl,rfl,rfl,by simp,fun k hk=>g2 k (by have:=MapOk.hB hb;omega)⟩
 refine⟨hbl,by simp;exact hi.base,by simp[hi.len],fun id2 m2 l2 hm2 hl2=>?_,hi.inj,fun b o v h=>?_,hi.old⟩
 ·by_cases e:id=id2
  ·subst e
   rw[List.getElem?_set_self hid]at hm2
   obtain rfl:=Option.some.inj hm2
   rw[hl]at hl2;obtain rfl:=Option.some.inj hl2
   exact⟨MapOk.ht hb,hn,MapOk.hB hb,⟨ents,clock,g1,by simpa using he.1,fun i k v h=>by
    obtain⟨f1,u,f2,f3⟩:=he.2 i k v h
    exact⟨f1,u,by simpa using f2,f3⟩⟩,MapOk.free hb⟩
  ·rw[List.getElem?_set_ne e]at hm2
   have h1:=hi.blk id2 m2 l2 hm2 hl2
   cases m2 with
   | mp q2 es2=>
     have hne:l2.b≠l.b:=fun h=>e (hi.inj id id2 l l2 hl hl2 hn (MapOk.hn h1) h.symm)
     obtain⟨ents2,clock2,g,g3⟩:=MapOk.obj h1
     exact⟨MapOk.ht h1,MapOk.hn h1,MapOk.hB h1,⟨ents2,clock2,(g2 _ hne).trans g,g3⟩,MapOk.free h1⟩
   | row k els z=>
     refine⟨h1.hk,h1.ht,h1.hsh,h1.hz,h1.hB,h1.wid,h1.fit,fun hn2=>?_,h1.free⟩
     have hne:l2.b≠l.b:=fun h=>e (hi.inj id id2 l l2 hl hl2 hn hn2 h.symm)
     obtain⟨cs2,T2,g,g3⟩:=BlkOk.blk h1 hn2
     exact⟨cs2,T2,(g2 _ hne).trans g,g3⟩
 ·have hne:b≠l.b:=fun e=>by
   subst e
   rw[MapOk.free hb o]at h;cases h
  have:=hi.imm b o v h
  unfold World.cell? at this ⊢
  show (match (w.heap.setIfInBounds l.b (.map ents clock))[b]? with
   | some (.cells c _ _)=>_
   | _=>none)=_
  rw[g2 _ hne];exact this
theorem map_ref (hi:Inv B0 w0 I H L w) {id:Nat} {q:KK} {es:List (AV×AV)} (hm:getMp H id=some (q,es)) {v:Value} (hr:Rep I L (.mpr id) v) :
  ∃ l ents clock,L[id]?=some l∧v=.map (some l.b)∧w.heap[l.b]?=some (.map ents clock)∧EntsOk I L q es ents.toList∧H[id]?=some (.mp q es):=by
 have hH:H[id]?=some (.mp q es):=by
  unfold getMp at hm
  split at hm
  ·rename_i q' es' h
   simp only[Option.some.injEq,Prod.mk.injEq]at hm
   obtain⟨rfl,rfl⟩:=hm
   exact h
  ·cases hm
 cases hr with
 | mpr _ l b hL hv=>
   have hb:=hi.blk id _ l hH hL
   obtain⟨ents,clock,e,e2,e3⟩:=MapOk.obj hb
   refine⟨l,ents,clock,hL,by rw[hv (MapOk.ht hb)],e,⟨by simpa using e2,fun i k v h=>?_⟩,hH⟩
   obtain⟨f1,u,f2,f3⟩:=e3 i k v h
   exact⟨f1,u,by simpa using f2,f3⟩
theorem makeMap_sound (hi:Inv B0 w0 I H L w) {t:TypeId} {q:KK} {e:TypeId} (hk:kindT P t=some (q,e)) {r:Option AV} {rv:Option Value} (hr:resOk r=true)
  (hrr:match r,rv with
    | none,none=>True
    | some x,some v=>Rep I L x v
    | _,_=>False) :
  ∃ u w' L',(Instr.makeMap t rv).run P w=.ok u w'∧Inv B0 w0 I (H++[.mp q []]) L' w'∧Ext I L I L'∧Rep I L' (.mpr H.length) u:=by
 obtain⟨kt,h1,h2⟩:=kindT_eq hk
 obtain⟨i1,i2⟩:=hi.newMap q
 refine⟨.map (some w.heap.size),_,_,?_,i1,i2,.mpr _ ⟨0,0,w.heap.size,1,0,0⟩ _ (by rw[← hi.len];simp) (fun _=>rfl)⟩
 cases r with
 | none=>
   cases rv with
   | none=>simp[Instr.makeMap,Result.andThen]
   | some v=>exact hrr.elim
 | some x=>
   cases rv with
   | none=>exact hrr.elim
   | some v=>
     simp only at hrr
     cases x<;>simp[resOk]at hr
     cases hrr
     simp[Instr.makeMap,run_underlying h1,asInt,asIntOf,Result.andThen]
theorem lookup_sound (hi:Inv B0 w0 I H L w) {t:TypeId} {x i:AV} {vx vi:Value} (hx:Rep I L x vx) (hiv:Rep I L i vi) {c:Bool} {r:AV} (h:evLookup P H t x i c=some r) :
  ∃ u,(Instr.lookup t vx vi c).run P w=.ok u w∧Rep I L r u:=by
 have two:∀(v:AV) (u:Value) (b:Bool),Rep I L v u→Rep I L (if c=true then .tup [v,.bool b] else v) (if c then .tuple #[u,.bool b] else u):=by
  intro v u b hv
  cases c with
  | false=>exact hv
  | true=>exact .tup _ _ rfl (fun i y h=>by
     match i,h with
     | 0,h=>simp at h;subst h;simpa using hv
     | 1,h=>simp at h;subst h;simpa using Rep.bool b
     | i+2,h=>simp at h)
 unfold evLookup at h
 split at h
 ·rename_i q e hk
  obtain⟨kt,h1,h2⟩:=kindT_eq hk
  split at h
  ·rename_i hko
   have hkey:=fun em=>key_check (w:=w) h2 hko hiv em
   have core:∀(es:List (AV×AV)) (ents:Array MapEntry),EntsOk I L q es ents.toList →
     (match (some (findMp i es):Option (Option AV)) with
       | some (some v)=>some (if c=true then .tup [v,.bool true] else v)
       | some none=>match tyZero P e with
         | some z=>if z.cells.all AV.ok=true then some (if c=true then .tup [z,.bool false] else z) else none
         | none=>none
       | none=>none)=some r →
     (∃ zv,(Instr.findKey kt vi ents.toList).run P w=.ok none w∧(∀ w,(zeroValue e).run P w=.ok zv w)∧Rep I L r (if c then .tuple #[zv,.bool false] else zv)) ∨
     (∃ p:Nat×Value,(Instr.findKey kt vi ents.toList).run P w=.ok (some p) w∧Rep I L r (if c then .tuple #[p.2,.bool true] else p.2)):=by
    intro es ents hents hq
    rcases find_ents (w:=w) h2 hko hiv hents with ⟨a1,a2,a3⟩|⟨j,v,en,k,a1,a2,a3,a4,a5,a6,a7⟩
    ·rw[a1]at hq
     simp only at hq
     split at hq
     ·rename_i z hz
      split at hq
      ·rename_i hok
       obtain⟨zv,z1,z2,z3⟩:=zero_cells (I:=I) (L:=L) hz hok
       simp only[Option.some.injEq]at hq
       subst hq
       exact .inl ⟨zv,a2,z1,two z zv false z3⟩
      ·cases hq
     ·cases hq
    ·rw[a1]at hq
     simp only[Option.some.injEq]at hq
     subst hq
     exact .inr ⟨_,a2,two v en.val true a6⟩
   cases x
   case nilm=>
    cases hx
    rcases core [] #[] ⟨rfl,fun i k v h=>by simp at h⟩ h with ⟨zv,f1,f2,f3⟩|⟨p,f1,f3⟩
    ·refine⟨_,?_,f3⟩
     cases c<;>simp[Instr.lookup,run_underlying h1,hkey,f1,f2,Result.andThen]
    ·rcases find_ents (w:=w) (es:=[]) (ents:=[]) h2 hko hiv ⟨rfl,fun i k v h=>by simp at h⟩ with ⟨_,g,_⟩|⟨j,_,e,_,_,_,g,_⟩
     ·have f1:(Instr.findKey kt vi []).run P w=.ok (some p) w:=f1
      rw[g]at f1;cases f1
     ·simp at g
   case mpr id=>
    simp only at h
    cases hg:getMp H id with
    | none=>rw[hg]at h;simp at h
    | some p=>
      obtain⟨q',es⟩:=p
      rw[hg]at h
      simp only at h
      obtain⟨l,ents,clock,e1,rfl,e3,e4,e5⟩:=map_ref hi hg hx
      by_cases hqq:q' = q
      ·subst hqq
       rw[if_pos rfl]at h
       rcases core es ents e4 h with ⟨zv,f1,f2,f3⟩|⟨p,f1,f3⟩
       ·refine⟨_,?_,f3⟩
        cases c<;>simp[Instr.lookup,run_underlying h1,MapKept.run_getObj_map e3,hkey,f1,f2,Result.andThen]
       ·refine⟨_,?_,f3⟩
        cases c<;>simp[Instr.lookup,run_underlying h1,MapKept.run_getObj_map e3,hkey,f1,Result.andThen]
      ·rw[if_neg hqq]at h;simp at h
   all_goals simp at h
  ·cases h
 ·cases h
theorem mapUpd_sound (hi:Inv B0 w0 I H L w) {t:TypeId} {m k v:AV} {vm vk vv:Value} (hm:Rep I L m vm) (hk:Rep I L k vk) (hv:Rep I L v vv) {H':List MB} (h:evMapUpd P H t m k v=some H') :
  ∃ w',(Instr.mapUpdate t vm vk vv).run P w=.ok () w'∧Inv B0 w0 I H' L w':=by
 unfold evMapUpd at h
 split at h
 ·rename_i q e id hkt
  obtain⟨kt,h1,h2⟩:=kindT_eq hkt
  split at h
  ·rename_i q' es hg
   split at h
   ·rename_i hc
    obtain⟨rfl,hko⟩:=hc
    simp only[Option.some.injEq]at h
    subst h
    obtain⟨l,ents,clock,e1,rfl,e3,e4,e5⟩:=map_ref hi hg hm
    have hkey:=fun em=>key_check (w:=w) h2 hko hk em
    have hst:=key_stays (P:=P) (w:=w) hko hk
    rcases find_ents (w:=w) h2 hko hk e4 with ⟨a1,a2,a3⟩|⟨j,v0,en,k0,a1,a2,a3,a4,a5,a6,a7⟩
    ·refine⟨_,?_,hi.setMap e5 e1 (ents:=ents.push { key:=vk,val:=vv,born:=clock }) (clock+1) ?_⟩
     ·simp[Instr.mapUpdate,run_underlying h1,MapKept.run_getObj_map e3,hkey,a2,MapKept.run_setObj_map _ e3,Result.andThen]
     ·rw[a3]
      refine⟨by simp[← e4.1],fun i kk u hiu=>?_⟩
      by_cases hlt:i < es.length
      ·rw[List.getElem?_append_left hlt]at hiu
       obtain⟨f1,en,f2,f3⟩:=e4.2 i kk u hiu
       refine⟨f1,en,?_,f3⟩
       rw[Array.toList_push,List.getElem?_append_left (by rw[e4.1];exact hlt)];exact f2
      ·have hie:i=es.length:=by
        have:=(List.getElem?_eq_some_iff.1 hiu).1
        simp at this;omega
       subst hie
       simp at hiu
       obtain⟨rfl,rfl⟩:=hiu
       refine⟨hko,{ key:=vk,val:=vv,born:=clock },?_,hk,hv⟩
       rw[Array.toList_push,List.getElem?_append_right (by rw[e4.1];exact Nat.le_refl _),e4.1];simp
    ·have hj:ents[j]?=some en:=by simpa using a3
     refine⟨_,?_,hi.setMap e5 e1 (ents:=ents.modify j fun e=>{ e with key:=vk,val:=vv }) clock ?_⟩
     ·simp[Instr.mapUpdate,run_underlying h1,MapKept.run_getObj_map e3,hkey,a2,hj,a5,hst,MapKept.run_setObj_map _ e3,Result.andThen]
     ·rw[a7]
      refine⟨by simp[← e4.1],fun i kk u hiu=>?_⟩
      by_cases hij:j=i
      ·subst hij
       rw[List.getElem?_set_self (List.getElem?_eq_some_iff.1 a4).1]at hiu
       simp at hiu
       obtain⟨rfl,rfl⟩:=hiu
       obtain⟨f1,en',f2,f3,f4⟩:=e4.2 j k0 v0 a4
       rw[a3]at f2;obtain rfl:=Option.some.inj f2
       refine⟨f1,{ en with key:=vk,val:=vv },?_,?_,hv⟩
       ·rw[Array.toList_modify,List.getElem?_modify_eq,a3];rfl
       ·show Rep I L k0 vk
        rw[← a5];exact f3
      ·rw[List.getElem?_set_ne hij]at hiu
       obtain⟨f1,en',f2,f3⟩:=e4.2 i kk u hiu
       refine⟨f1,en',?_,f3⟩
       rw[Array.toList_modify,List.getElem?_modify_ne _ _ hij];exact f2
   ·cases h
  ·cases h
 ·cases h
end Go.Ev
namespace Go.Ev
open Go.RowKit
variable {P:Program} {B0:Nat} {w0:Base} {w:World} {I:Imm} {H:List MB} {L:List Lay}
theorem bytesOf_eq:∀ {ys:List AV} {ns:List Int},bytesOf ys=some ns→ys=ns.map (AV.int .u8)
 | [],ns,h=>by simp[bytesOf]at h;subst h;rfl
 | y::ys,ns,h=>by
   cases y<;>simp[bytesOf]at h
   obtain⟨rfl,r,h2,rfl⟩:=h
   rw[List.map_cons,← bytesOf_eq h2]
theorem strB_foldl (ns:List Int):ns.foldl (fun r n=>r.push (UInt8.ofNat n.toNat)) ByteArray.empty=strB ns:=by
 have h:∀(ns:List Int) (acc:ByteArray),ns.foldl (fun r n=>r.push (UInt8.ofNat n.toNat)) acc=⟨acc.data++(ns.map fun n=>UInt8.ofNat n.toNat).toArray⟩:=by
  intro ns
  induction ns with
  | nil=>intro acc;simp
  | cons n ns ih=>intro acc;rw[List.foldl_cons,ih];simp[ByteArray.push]
 rw[h]
 simp[strB]
theorem str_sound (hi:Inv B0 w0 I H L w) {s d e:TypeId} {x:AV} {v:Value} (hx:Rep I L x v) (he:tyElem P s=some e) (hb:tyInt P e=some .u8) (hd:tyStr P d=true) {b:ByteArray} (h:strOf H x=some b) :
  (convert s d v).run P w=.ok (.string b) w:=by
 unfold strOf at h
 split at h
 ·rename_i ys hys
  cases hq:bytesOf ys with
  | none=>rw[hq]at h;cases h
  | some ns=>
    rw[hq]at h
    simp only[Option.map_some,Option.some.injEq]at h
    subst h
    have hyn:=bytesOf_eq hq
    subst hyn
    obtain⟨cs,e1,e2,e3⟩:=elems_run (P:=P) hi hx hys (k:=1) (fun y hy=>by
     obtain⟨n,_,rfl⟩:=List.mem_map.1 hy;rfl)
    have hcs:cs=(ns.map (Value.int .u8)).toArray:=by
     obtain⟨c1,_,c3⟩:=e3
     simp at c1
     apply Array.ext
     ·simp[c1]
     ·intro i h1 h2
      have hin:i < ns.length:=by omega
      obtain⟨_,r2⟩:=c3 i 0 (.int .u8 ns[i]) (.int .u8 ns[i]) (by simp[hin]) rfl
      have:cs.getD (i * 1+0) undef=cs[i]:=by simp[h1]
      rw[this]at r2
      cases hv:cs[i] with
      | _=>rw[hv]at r2;cases r2;try simp
    subst hcs
    have hsl:∃ a l c,v=.slice a l c:=by
     unfold elemsOf at hys
     cases hx<;>first|exact⟨_,_,_,rfl⟩|simp at hys
    obtain⟨a,l,c,rfl⟩:=hsl
    rw[run_convert_bytes_string w s d e a l c (tyElem_eq he) (tyInt_eq hb) (tyStr_eq hd)]
    cases a with
    | none=>
      have hl:ns=[]:=by
       simp[Builtin.firstCells]at e2
       exact e2
      subst hl
      simp[Conv.bytesToString]
      rfl
    | some a=>
      have hlen:l=ns.length:=by
       simp[Builtin.lenOf]at e1
       omega
      subst hlen
      have hld:(loadCells a ns.length).run P w=.ok (ns.map (Value.int .u8)).toArray w:=by
       simpa [Builtin.firstCells] using e2
      rw[run_bytesToString w a _ c ns hld,strB_foldl]
 ·cases h
end Go.Ev
namespace Go.Ev
open Go.RowKit
variable {P:Program} {B0:Nat} {w0:Base} {w:World} {I:Imm} {H:List MB} {L:List Lay}
theorem zeroCells_one (v:Value) (n:Nat):(Builtin.zeroCells #[v] n).toList=List.replicate n v:=by
 simp[Builtin.zeroCells]
 apply List.ext_getElem
 ·simp
 ·intro i h1 h2
  simp[Nat.mod_one]
theorem clear_sound (hi:Inv B0 w0 I H L w) {T ty:TypeId} {x:AV} {v:Value} (hx:Rep I L x v) {H':List MB} (h:evClear P H T x=some H') :
  ∃ w',(Builtin.clear_ #[T] ty #[v]).run P w=.ok (.tuple #[]) w'∧Inv B0 w0 I H' L w':=by
 unfold evClear at h
 split at h
 ·rename_i id
  split at h
  ·rename_i q0 q es hk hg
   simp only[Option.some.injEq]at h
   subst h
   obtain⟨q1,e⟩:=q0
   obtain⟨kt,h1,h2⟩:=kindT_eq hk
   obtain⟨l,ents,clock,e1,rfl,e3,e4,e5⟩:=map_ref hi hg hx
   exact⟨_,by simp[Builtin.clear_,run_underlying h1,MapKept.run_getObj_map e3,MapKept.run_setObj_map _ e3,Result.andThen],hi.setMap e5 e1 (ents:=#[]) clock ⟨rfl,fun i k v h=>by simp at h⟩⟩
  ·cases h
 ·rename_i id k tot off len
  split at h
  ·rename_i k' els z e hrow he
   split at h
   ·rename_i ze hz
    split at h
    ·rename_i hc
     obtain⟨⟨c1,rfl,rfl⟩,⟨rfl,rfl,rfl⟩,c7⟩:=hc
     simp only[Option.some.injEq]at h
     subst h
     obtain⟨l,hl,hb⟩:=hi.row hrow
     have hH:=getRow_eq hrow
     have hst:P.underlying T=some (.slice e):=tyElem_eq he
     by_cases h0:len=0
     ·subst h0
      have hels:els=[]:=List.length_eq_zero_iff.1 c1
      subst hels
      have hsame:H.set id (.row 1 (List.replicate 0 ze) 0)=H:=by
       apply List.ext_getElem?
       intro q
       by_cases e:id=q
       ·subst e;rw[List.getElem?_set_self (List.getElem?_eq_some_iff.1 hH).1,hH];rfl
       ·rw[List.getElem?_set_ne e]
      rw[hsame]
      refine⟨w,?_,hi⟩
      cases hx with
      | ms _ _ _ _ _ l2 b o c hL ht hk hl2 hlc hv=>simp[Builtin.clear_,run_underlying hst,Result.andThen]
      | msn=>simp[Builtin.clear_,run_underlying hst,Result.andThen]
     ·cases hx with
      | msn=>exact absurd rfl h0
      | ms _ _ _ _ _ l2 b o c hL ht hk hl2 hlc hv=>
        rw[hl]at hL;obtain rfl:=Option.some.inj hL
        obtain⟨v1,v2,v3,v4,v5⟩:=hv (by rw[hb.ht];exact c1.symm)
        subst v2
        have v3:=v3 (by omega)
        have hsh:l.sh=0:=by omega
        have hfit:=hb.fit
        have hn0:l.n≠0:=by rw[hsh]at hfit;omega
        obtain⟨cs,T0,f1,f2,f3,f4⟩:=hb.blk hn0
        obtain⟨zv,z1,z2,z3⟩:=zero_cells (I:=I) (L:=L) hz (by
         cases ze<;>simp[AV.cells]<;>first|exact c7|(simp[AV.ok]at c7))
        have hscal:scal zv=true:=z3.scal c7
        have hzc:=scal_cells hscal
        have ho:o=l.o:=by rw[v3,hsh];simp
        subst ho
        have hst2:=run_storeCells_at (P:=P) l.b l.o T0 (List.replicate len zv) 0 cs w f1 (by rw[hsh]at hfit;simp;omega) (fun v hv=>by rw[List.eq_of_mem_replicate hv];exact hscal)
        generalize hcs':(cs.toList.take (l.o+0)++List.replicate len zv++cs.toList.drop (l.o+0+(List.replicate len zv).length)).toArray=cs' at hst2
        have hcsz:cs'.size=cs.size:=by
         rw[← hcs'];rw[hsh]at hfit;simp;omega
        have hget:∀ c,l.o≤c→c < l.o+len→cs'[c]?=some zv:=by
         intro c g1 g2
         rw[← hcs']
         simp only[List.getElem?_toArray,Nat.add_zero]
         have hl1:(cs.toList.take l.o).length=l.o:=by rw[hsh]at hfit;simp;omega
         rw[List.append_assoc,List.getElem?_append_right (by rw[hl1];exact g1),hl1,List.getElem?_append_left (by simp;omega),List.getElem?_replicate,if_pos (by omega)]
        have hlset:L.set id l=L:=by
         apply List.ext_getElem?
         intro q
         by_cases e:id=q
         ·subst e;rw[List.getElem?_set_self (List.getElem?_eq_some_iff.1 hl).1,hl]
         ·rw[List.getElem?_set_ne e]
        have hzl:ze.cells=[ze]:=by cases ze<;>first|rfl|(simp[AV.ok]at c7)
        have hw:=hi.write hH hl hn0 (List.replicate len ze) l cs' f1 hcsz hb.hk (by simp[hb.ht,c1]) rfl rfl rfl rfl (by simp[c1]) (fun q hq=>by rw[List.eq_of_mem_replicate hq,hzl];rfl) (by simpa [c1] using hfit)
         (fun c hc=>by
           simp only[Nat.zero_sub,Nat.zero_mul,Nat.add_zero]at hc
           rw[← hcs']
           have hl1:(cs.toList.take l.o).length=l.o:=by rw[hsh]at hfit;simp;omega
           simp only[List.getElem?_toArray,Nat.add_zero]
           rw[List.append_assoc,List.getElem?_append_left (by rw[hl1];exact hc),List.getElem?_take,if_pos hc];simp)
         (fun i' j' q r g1 g2 g3=>by
           rw[hlset]
           have hlt:=(List.getElem?_eq_some_iff.1 g1).1
           simp at hlt
           rw[List.getElem?_replicate,if_pos hlt]at g1
           obtain rfl:=Option.some.inj g1
           rw[hzl]at g2
           have hj:j' = 0:=by have:=(List.getElem?_eq_some_iff.1 g2).1;simp at this;omega
           subst hj
           simp at g2;subst g2
           exact⟨zv,by rw[hsh];rw[hget _ (by omega) (by omega)],hscal,z3⟩)
        rw[hlset]at hw
        refine⟨_,?_,hw.1⟩
        obtain⟨m,rfl⟩:∃ m,len=m+1:=⟨len - 1,by omega⟩
        have hzz:=zeroCells_one zv (m+1)
        simp[Builtin.clear_,run_underlying hst,z1,hzc,hzz,hst2,Result.andThen]
    ·cases h
   ·cases h
  ·cases h
 ·cases h
end Go.Ev
namespace Go.Ev
open Go.RowKit
variable {P:Program} {B0:Nat} {w0:Base} {w:World} {I:Imm} {H:List MB} {L:List Lay}
def RepL (I:Imm) (L:List Lay) (xs:List AV) (vs:Array Value):Prop:=vs.size=xs.length∧∀ i y,xs[i]?=some y→Rep I L y (vs.getD i undef)
theorem RepL.mono {I':Imm} {L':List Lay} (hx:Ext I L I' L') {xs:List AV} {vs:Array Value} (h:RepL I L xs vs):RepL I' L' xs vs:=⟨h.1,fun i y hi=>(h.2 i y hi).mono hx⟩
def CallSound (P:Program) (f:Nat) (args:List AV) (H:List MB) (r:AV) (H':List MB):Prop:=
 (∀(vs:Array Value) (w:World),(callFunc f vs).run P w=.ok (.enter f vs) w) ∧
 ∀(B0:Nat) (w0:Base) (w:World) (I:Imm) (L:List Lay) (vs:Array Value),Inv B0 w0 I H L w→RepL I L args vs →
  Calls P f vs w (fun e w'=>∃ v I' L',e=.returned v∧Inv B0 w0 I' H' L' w'∧Ext I L I' L'∧Rep I' L' r v)
def CfOk (P:Program) (cf:CF):Prop:=∀ f args H r H',cf f args H=some (r,H')→CallSound P f args H r H'
def nextVal:Next→Option Value
 | .value v=>some v
 | .skip=>some undef
 | _=>none
def isFnCall (o:Oper):Bool:=
 match o.op with
 | .call c=>match c.callee with
   | .builtin _=>false
   | _=>true
 | _=>false
theorem len_sound {T ty:TypeId} {x:AV} {v:Value} (hx:Rep I L x v) {r:AV} (h:evLen P T x=some r) (w:World) :
  ∃ u,(Builtin.len_ #[T] ty #[v]).run P w=.ok u w∧Rep I L r u:=by
 unfold evLen at h
 split at h
 ·rename_i e hu
  split at h
  ·rename_i t xs
   simp at h;subst h
   generalize hq2:AV.sl t xs=q at hx
   cases hx with
   | nilsl t'=>simp at hq2;obtain⟨_,rfl⟩:=hq2;exact⟨goInt (0:Nat),by simp[Builtin.len_,run_underlying hu],.int _ _⟩
   | sl t' xs' b o c k f hc ht hk hI hR=>
     simp at hq2;obtain⟨_,rfl⟩:=hq2
     exact⟨goInt xs.length,by simp[Builtin.len_,run_underlying hu],.int _ _⟩
   | _=>cases hq2
  ·rename_i id k tot off len
   simp at h;subst h
   cases hx with
   | ms _ _ _ _ _ l b o c hL ht hk2 hl2 hlc hv=>exact⟨goInt len,by simp[Builtin.len_,run_underlying hu],.int _ _⟩
   | msn=>exact⟨goInt (0:Nat),by simp[Builtin.len_,run_underlying hu],.int _ _⟩
  ·simp at h
 ·rename_i hu
  split at h
  ·rename_i s
   simp at h;subst h
   cases hx
   exact⟨goInt s.size,by simp[Builtin.len_,run_underlying hu],.int _ _⟩
  ·simp at h
 ·rename_i n e hu
  simp at h;subst h
  exact⟨goInt n,by simp[Builtin.len_,run_underlying hu],.int _ _⟩
 ·rename_i a hu
  split at h
  ·rename_i n e hu2
   simp at h;subst h
   exact⟨goInt n,by simp[Builtin.len_,run_underlying hu,run_underlying hu2],.int _ _⟩
  ·simp at h
 ·simp at h
theorem lenH_sound (hi:Inv B0 w0 I H L w) {T ty:TypeId} {x:AV} {v:Value} (hx:Rep I L x v) {r:AV} (h:evLenH P H T x=some r) :
  ∃ u,(Builtin.len_ #[T] ty #[v]).run P w=.ok u w∧Rep I L r u:=by
 unfold evLenH at h
 split at h
 ·rename_i id
  unfold lenMp at h
  split at h
  ·rename_i q q' es hk hg
   simp only[Option.some.injEq]at h
   subst h
   obtain⟨q0,e⟩:=q
   obtain⟨kt,h1,h2⟩:=kindT_eq hk
   obtain⟨l,ents,clock,e1,rfl,e3,e4,e5⟩:=map_ref hi hg hx
   refine⟨goInt ents.size,by simp[Builtin.len_,run_underlying h1,MapKept.run_getObj_map e3,Result.andThen],?_⟩
   have hs:(ents.size:Int)=es.length:=by rw[← e4.1];simp
   show Rep I L (.int .i64 es.length) (.int .i64 ents.size)
   rw[hs];exact .int _ _
  ·cases h
 ·exact len_sound hx h w
theorem builtin_sound (hi:Inv B0 w0 I H L w) {ρ:Operand→AV} {ρc:Operand→Value} (hρ:∀ x,Rep I L (ρ x) (ρc x)) {b:Builtin} {ts:Array TypeId} {ty:TypeId} {cs:Array Bool} {args:Array Operand} {r:AV} {H':List MB}
  (h:evBuiltin P b ts.toList (args.toList.map ρ) H=some (r,H')) :
  ∃ u w' I' L',(builtin b ts ty cs (args.map ρc)).run P w=.ok (.value u) w'∧Inv B0 w0 I' H' L' w'∧Ext I L I' L'∧Rep I' L' r u:=by
 obtain⟨ts⟩:=ts
 obtain⟨args⟩:=args
 unfold evBuiltin at h
 simp only[]at h
 match args with
 | []=>simp at h
 | [o]=>
   simp only[List.map_cons,List.map_nil]at h
   split at h
   ·rename_i T
    cases he:evLenH P H T (ρ o) with
    | none=>rw[he]at h;simp at h
    | some q=>
      rw[he]at h;simp at h;obtain⟨rfl,rfl⟩:=h
      obtain⟨u,e1,e2⟩:=lenH_sound (ty:=ty) hi (hρ o) he
      refine⟨u,w,I,L,?_,hi,.refl I L,e2⟩
      rw[show (⟨[o]⟩:Array Operand).map ρc = #[ρc o] by simp]
      show (do pure (.value (← Builtin.len_ #[T] ty #[ρc o])):Sem Next).run P w=_
      simp only[Sem.run_bind,e1,Result.andThen_ok,Sem.run_pure]
   ·rename_i T
    cases he:evClear P H T (ρ o) with
    | none=>rw[he]at h;simp at h
    | some H1=>
      rw[he]at h;simp at h;obtain⟨rfl,rfl⟩:=h
      obtain⟨w',e1,e2⟩:=clear_sound (ty:=ty) hi (hρ o) he
      refine⟨.tuple #[],w',I,L,?_,e2,.refl I L,.tup [] #[] rfl (fun i y h=>by simp at h)⟩
      rw[show (⟨[o]⟩:Array Operand).map ρc = #[ρc o] by simp]
      show (do pure (.value (← Builtin.clear_ #[T] ty #[ρc o])):Sem Next).run P w=_
      simp only[Sem.run_bind,e1,Result.andThen_ok,Sem.run_pure]
   ·simp at h
 | [o,o']=>
   simp only[List.map_cons,List.map_nil]at h
   split at h
   ·split at h
    ·rename_i sT xT
     obtain⟨u,w',I',L',e1,e2,e3,e4⟩:=append_sound (ty:=ty) hi (hρ o) (hρ o') h
     refine⟨u,w',I',L',?_,e2,e3,e4⟩
     rw[show (⟨[o,o']⟩:Array Operand).map ρc = #[ρc o,ρc o'] by simp]
     show (do pure (.value (← Builtin.append_ #[sT,xT] ty #[ρc o,ρc o'])):Sem Next).run P w=_
     simp only[Sem.run_bind,e1,Result.andThen_ok,Sem.run_pure]
    ·simp at h
   ·have hx:=hρ o
    have hy:=hρ o'
    have run2:∀(x y:Value),(builtin .min ⟨ts⟩ ty cs #[x,y]).run P w=((Builtin.min2 x y).run P w).andThen fun v w=>.ok (.value v) w:=by
     intro x y
     show (do pure (.value (← Builtin.min_ ⟨ts⟩ ty #[x,y])):Sem Next).run P w=_
     simp only[Builtin.min_,List.foldlM_cons,List.foldlM_nil,bind_pure,Sem.run_bind,Sem.run_pure]
    unfold evMin at h
    generalize ρ o=a at *
    generalize ρ o' = b at *
    cases a<;>cases b<;>simp only[Option.map_none,reduceCtorEq,Option.map_some,Option.some.injEq,Prod.mk.injEq]at h
    obtain⟨rfl,rfl⟩:=h
    have e1:=run2 (ρc o) (ρc o')
    rw[show (⟨[o,o']⟩:Array Operand).map ρc = #[ρc o,ρc o'] by simp]
    generalize ρc o=va at *
    generalize ρc o' = vb at *
    cases hx;cases hy
    exact⟨_,w,I,L,e1,hi,.refl I L,.int _ _⟩
   ·have hx:=hρ o
    have hy:=hρ o'
    have run2:∀(x y:Value),(builtin .max ⟨ts⟩ ty cs #[x,y]).run P w=((Builtin.max2 x y).run P w).andThen fun v w=>.ok (.value v) w:=by
     intro x y
     show (do pure (.value (← Builtin.max_ ⟨ts⟩ ty #[x,y])):Sem Next).run P w=_
     simp only[Builtin.max_,List.foldlM_cons,List.foldlM_nil,bind_pure,Sem.run_bind,Sem.run_pure]
    unfold evMax at h
    generalize ρ o=a at *
    generalize ρ o' = b at *
    cases a<;>cases b<;>simp only[Option.map_none,reduceCtorEq,Option.map_some,Option.some.injEq,Prod.mk.injEq]at h
    obtain⟨rfl,rfl⟩:=h
    have e1:=run2 (ρc o) (ρc o')
    rw[show (⟨[o,o']⟩:Array Operand).map ρc = #[ρc o,ρc o'] by simp]
    generalize ρc o=va at *
    generalize ρc o' = vb at *
    cases hx;cases hy
    exact⟨_,w,I,L,e1,hi,.refl I L,.int _ _⟩
   ·simp at h
 | _::_::_::_=>simp at h
theorem evOp_sound (hi:Inv B0 w0 I H L w) {cf:CF} {mu:List Nat} {ρ:Operand→AV} {ρc:Operand→Value} (hρ:∀ x,Rep I L (ρ x) (ρc x)) {o:Oper} (hn:isFnCall o=false) {r:AV} {H':List MB}
  (h:evOp P cf mu ρ H o=some (r,H')) :
  ∃ n u w' I' L',(execOp ρc o).run P w=.ok n w'∧nextVal n=some u∧Inv B0 w0 I' H' L' w'∧Ext I L I' L'∧Rep I' L' r u:=by
 obtain⟨dst,op,type,pos,after,guard⟩:=o
 have ofV:∀(s:Sem Value) (u:Value) (w':World),s.run P w=.ok u w'→(do pure (.value (← s)):Sem Next).run P w=.ok (.value u) w':=by
  intro s u w' hs
  simp only[Sem.run_bind,hs,Result.andThen_ok,Sem.run_pure]
 have pureOp:∀(q:Option AV) (s:Sem Value),q.map (fun v=>(v,H))=some (r,H')→(∀ v,q=some v→∃ u,s.run P w=.ok u w∧Rep I L v u) →
   ∃ n u w' I' L',(do pure (.value (← s)):Sem Next).run P w=.ok n w'∧nextVal n=some u∧Inv B0 w0 I' H' L' w'∧Ext I L I' L'∧Rep I' L' r u:=by
  intro q s hq hs
  cases hqq:q with
  | none=>rw[hqq]at hq;simp at hq
  | some v=>
    rw[hqq]at hq;simp at hq;obtain⟨rfl,rfl⟩:=hq
    obtain⟨u,e1,e2⟩:=hs v hqq
    exact⟨_,u,w,I,L,ofV s u w e1,rfl,hi,.refl I L,e2⟩
 cases op<;>simp only[evOp]at h
 case move x=>
  simp at h;obtain⟨rfl,rfl⟩:=h
  exact⟨_,_,w,I,L,rfl,rfl,hi,.refl I L,hρ x⟩
 case assign x=>
  simp at h;obtain⟨rfl,rfl⟩:=h
  exact⟨_,_,w,I,L,rfl,rfl,hi,.refl I L,hρ x⟩
 case pick c a b=>
  split at h
  ·rename_i t hc
   simp at h;obtain⟨rfl,rfl⟩:=h
   have hcr:=hρ c
   rw[hc]at hcr
   generalize hvc:ρc c=vc at hcr
   cases hcr
   refine⟨.value (if t then ρc a else ρc b),if t then ρc a else ρc b,w,I,L,?_,rfl,hi,.refl I L,?_⟩
   ·simp only[execOp,hvc,asBool,Sem.run_bind,Sem.run_pure,Result.andThen_ok]
   ·cases t
    ·exact hρ b
    ·exact hρ a
  ·simp at h
 case alloc e=>
  split at h
  ·rename_i z hz
   split at h
   ·rename_i hok
    simp at h;obtain⟨rfl,rfl⟩:=h
    obtain⟨u,w',L',e1,e2,e3,e4⟩:=alloc_sound hi hz hok
    exact⟨_,u,w',I,L',ofV _ u w' e1,rfl,e2,e3,e4⟩
   ·simp at h
  ·simp at h
 case box e x=>
  split at h
  ·rename_i hok
   simp at h;obtain⟨rfl,rfl⟩:=h
   obtain⟨u,w',L',e1,e2,e3,e4⟩:=newVar_sound (P:=P) hi (hρ x) hok e
   exact⟨_,u,w',I,L',ofV _ u w' e1,rfl,e2,e3,e4⟩
  ·simp at h
 case build t parts=>
  refine pureOp _ _ h (fun v hv=>?_)
  obtain⟨parts⟩:=parts
  have:=build_sound (P:=P) hρ hv w
  simpa using this
 case buildSlice t n parts=>
  obtain⟨parts⟩:=parts
  split at h
  ·rename_i es hes
   split at h
   ·cases hk:tySzE P t with
    | none=>rw[hk]at h;simp at h
    | some k=>
      rw[hk]at h;simp at h;obtain⟨rfl,rfl⟩:=h
      obtain⟨u,w',L',e1,e2,e3,e4⟩:=buildSliceMut_sound hi hρ hes hk
      refine⟨_,u,w',I,L',ofV _ u w' ?_,rfl,e2,e3,e4⟩
      simpa using e1
   ·simp at h;obtain⟨rfl,rfl⟩:=h
    obtain⟨u,w',I',e1,e2,e3,e4⟩:=buildSlice_sound hi hρ hes
    refine⟨_,u,w',I',L,ofV _ u w' ?_,rfl,e2,e3,e4⟩
    simpa using e1
  ·simp at h
 case load t a=>
  split at h
  ·rename_i cs hcs
   exact pureOp _ _ h (fun v hv=>load_sound hi (hρ a) hcs hv)
  ·simp at h
 case store t a x=>
  cases hq:evStore P H t (ρ a) (ρ x) with
  | none=>rw[hq]at h;simp at h
  | some H1=>
    rw[hq]at h;simp at h;obtain⟨rfl,rfl⟩:=h
    obtain⟨w',L',e1,e2,e3⟩:=store_sound hi (hρ a) (hρ x) hq
    refine⟨.skip,undef,w',I,L',?_,rfl,e2,e3,.tup [] #[] rfl (fun i y h=>by simp at h)⟩
    simp only[execOp,Sem.run_bind,e1,Result.andThen_ok,Sem.run_pure]
 case nilCheck x=>
  have hx:=hρ x
  split at h
  ·rename_i cs hq
   simp at h;obtain⟨rfl,rfl⟩:=h
   rw[hq]at hx
   generalize hv:ρc x=v at hx
   cases hx with
   | pt _ b o f hI hR=>exact⟨.value (.pointer (some ⟨b,o,none⟩)),_,w,I,L,by simp only[execOp,hv];rfl,rfl,hi,.refl I L,.pt cs b o f hI hR⟩
  ·rename_i a b c d hq
   simp at h;obtain⟨rfl,rfl⟩:=h
   rw[hq]at hx
   generalize hv:ρc x=v at hx
   cases hx with
   | rf _ _ _ _ l b' o hL ht hvv=>exact⟨.value (.pointer (some ⟨b',o,none⟩)),_,w,I,L,by simp only[execOp,hv];rfl,rfl,hi,.refl I L,.rf a b c d l b' o hL ht hvv⟩
  ·rename_i f cs hq
   simp at h;obtain⟨rfl,rfl⟩:=h
   rw[hq]at hx
   generalize hv:ρc x=v at hx
   cases hx with
   | clo _ _ ws hn' hR=>exact⟨.value (.func (.func f) #[] ws),_,w,I,L,by simp only[execOp,hv];rfl,rfl,hi,.refl I L,.clo f cs ws hn' hR⟩
  ·simp at h
 case binOp op t x y yt=>exact pureOp _ _ h (fun v hv=>binOp_sound (hρ x) (hρ y) hv x y w)
 case unOp op t x=>exact pureOp _ _ h (fun v hv=>un_sound (hρ x) hv w)
 case convert s d x=>
  split at h
  ·rename_i e he
   split at h
   ·rename_i hc
    cases hq:strOf H (ρ x) with
    | none=>rw[hq]at h;cases h
    | some b=>
      rw[hq]at h
      simp only[Option.map_some,Option.some.injEq,Prod.mk.injEq]at h
      obtain⟨rfl,rfl⟩:=h
      exact⟨_,_,w,I,L,ofV _ _ w (str_sound hi (hρ x) he hc.1 hc.2 hq),rfl,hi,.refl I L,.str b⟩
   ·cases h
  ·exact pureOp _ _ h (fun v hv=>convert_sound (hρ x) hv w)
 case makeFunc fn first cap=>
  cases fn<;>simp only[reduceCtorEq]at h
  rename_i f
  split at h
  ·rename_i h0
   simp at h;obtain⟨rfl,rfl⟩:=h
   have e1:first = #[]:=Array.size_eq_zero_iff.1 h0
   subst e1
   refine⟨.value (.func (.func f) #[] (cap.map ρc)),_,w,I,L,by simp only[execOp,Instr.makeFunc,Sem.run_bind,Sem.run_pure,Result.andThen_ok,Array.map_empty],rfl,hi,.refl I L,.clo f _ _ (by simp) (fun i y hy=>?_)⟩
   simp only[List.getElem?_map,Option.map_eq_some_iff,Array.getElem?_toList]at hy
   obtain⟨x,g1,g2⟩:=hy
   subst g2
   have:(cap.map ρc).getD i undef=ρc x:=by simp[Array.getD_eq_getD_getElem?,g1]
   rw[this];exact hρ x
  split at h
  ·rename_i _ h0
   simp at h;obtain⟨rfl,rfl⟩:=h
   have e1:cap = #[]:=Array.size_eq_zero_iff.1 h0
   subst e1
   refine⟨.value (.func (.func f) (first.map ρc) #[]),_,w,I,L,by simp only[execOp,Instr.makeFunc,Sem.run_bind,Sem.run_pure,Result.andThen_ok,Array.map_empty],rfl,hi,.refl I L,.clb f _ _ (by simp) (fun i y hy=>?_)⟩
   simp only[List.getElem?_map,Option.map_eq_some_iff,Array.getElem?_toList]at hy
   obtain⟨x,g1,g2⟩:=hy
   subst g2
   have:(first.map ρc).getD i undef=ρc x:=by simp[Array.getD_eq_getD_getElem?,g1]
   rw[this];exact hρ x
  ·simp at h
 case makeSlice t l c=>
  obtain⟨u,w',L',e1,e2,e3,e4⟩:=makeSlice_sound hi (hρ l) (hρ c) h
  exact⟨_,u,w',I,L',ofV _ u w' e1,rfl,e2,e3,e4⟩
 case slice t x lo hi' mx=>
  split at h
  ·simp at h
  ·obtain⟨u,e1,rfl,e3⟩:=slice_sound (w:=w) hρ h
   exact⟨_,u,w,I,L,ofV _ u w e1,rfl,hi,.refl I L,e3⟩
 case fieldAddr t x f=>exact pureOp _ _ h (fun v hv=>fieldAddr_sound (hρ x) hv)
 case field t x f=>exact pureOp _ _ h (fun v hv=>field_sound (hρ x) hv)
 case indexAddr t x i=>exact pureOp _ _ h (fun v hv=>indexAddr_sound (hρ x) (hρ i) hv)
 case index t x i=>exact pureOp _ _ h (fun v hv=>index_sound (hρ x) (hρ i) hv)
 case extract x i=>
  split at h
  ·rename_i vs hq
   have hx:=hρ x
   rw[hq]at hx
   exact pureOp _ _ h (fun v hv=>extract_sound hx hv)
  ·simp at h
 case call c=>
  obtain⟨callee,args,argTypes⟩:=c
  cases callee with
  | builtin b=>
    simp only at h
    obtain⟨u,w',I',L',e1,e2,e3,e4⟩:=builtin_sound (ty:=type) (cs:=args.map fun | .const _=>true|_=>false) hi hρ h
    refine⟨.value u,u,w',I',L',?_,rfl,e2,e3,e4⟩
    simp only[execOp,resolve,Sem.run_bind,Sem.run_pure,Result.andThen_ok,invoke]
    exact e1
  | value f=>simp[isFnCall]at hn
  | invoke a b=>simp[isFnCall]at hn
 case makeMap t r=>
  split at h
  ·rename_i q e hk
   split at h
   ·rename_i hr
    simp at h;obtain⟨rfl,rfl⟩:=h
    obtain⟨u,w',L',e1,e2,e3,e4⟩:=makeMap_sound hi hk (rv:=r.map ρc) hr (by cases r with
     | none=>trivial
     | some x=>exact hρ x)
    exact⟨_,u,w',I,L',ofV _ u w' e1,rfl,e2,e3,e4⟩
   ·cases h
  ·cases h
 case lookup t x i c=>exact pureOp _ _ h (fun v hv=>lookup_sound hi (hρ x) (hρ i) hv)
 case mapUpdate t m k x=>
  cases hq:evMapUpd P H t (ρ m) (ρ k) (ρ x) with
  | none=>rw[hq]at h;simp at h
  | some H1=>
    rw[hq]at h;simp at h;obtain⟨rfl,rfl⟩:=h
    obtain⟨w',e1,e2⟩:=mapUpd_sound hi (hρ m) (hρ k) (hρ x) hq
    refine⟨.skip,undef,w',I,L,?_,rfl,e2,.refl I L,.tup [] #[] rfl (fun i y h=>by simp at h)⟩
    simp only[execOp,Sem.run_bind,e1,Result.andThen_ok,Sem.run_pure]
 case insert t m k x=>
  cases hq:evMapUpd P H t (ρ m) (ρ k) (ρ x) with
  | none=>rw[hq]at h;simp at h
  | some H1=>
    rw[hq]at h;simp at h;obtain⟨rfl,rfl⟩:=h
    obtain⟨w',e1,e2⟩:=mapUpd_sound hi (hρ m) (hρ k) (hρ x) hq
    refine⟨.skip,undef,w',I,L,?_,rfl,e2,.refl I L,.tup [] #[] rfl (fun i y h=>by simp at h)⟩
    simp only[execOp,Sem.run_bind,e1,Result.andThen_ok,Sem.run_pure]
 all_goals simp at h
end Go.Ev
namespace Go.Ev
open Go.RowKit
variable {P:Program} {cf:CF} {B0:Nat} {w0:Base} {w w':World} {I I':Imm} {H:List MB} {L:List Lay}
theorem under_cells (n:Nat) (x:AV):AV.under n x=true↔∀ c∈x.cells,AV.under n c=true:=by
 have hL:∀ l:List AV,AV.underL n l=true↔∀ c∈l,AV.under n c=true:=by
  intro l
  induction l with
  | nil=>simp[AV.underL]
  | cons a l ih=>simp[AV.underL,ih]
 cases x with
 | agg cs=>simp only[AV.under,AV.cells];exact hL cs
 | _=>simp[AV.cells]
theorem underL_iff (n:Nat) (l:List AV):AV.underL n l=true↔∀ c∈l,AV.under n c=true:=by
 induction l with
 | nil=>simp[AV.underL]
 | cons a l ih=>simp[AV.underL,ih]
theorem Rep.under {a:AV} {v:Value} (h:Rep I L a v):AV.under L.length a=true:=by
 induction h with
 | sl t xs b o c k f hc ht hk hI hR ih=>
   simp only[AV.under]
   rw[underL_iff]
   intro x hx
   rw[under_cells]
   intro y hy
   obtain⟨i,hi⟩:=List.getElem?_of_mem hx
   obtain⟨j,hj⟩:=List.getElem?_of_mem hy
   exact ih i j x y hi hj
 | pt cs b o f hI hR ih=>
   simp only[AV.under]
   rw[underL_iff]
   intro y hy
   obtain⟨j,hj⟩:=List.getElem?_of_mem hy
   exact ih j y hj
 | rf id tot i j l b o hL ht hv=>simp only[AV.under];simp;exact(List.getElem?_eq_some_iff.1 hL).1
 | ms id k tot off len l b o c hL ht hk hl hc hv=>simp only[AV.under];simp;exact(List.getElem?_eq_some_iff.1 hL).1
 | msn id k l hL hk=>simp only[AV.under];simp;exact(List.getElem?_eq_some_iff.1 hL).1
 | mpr id l b hL hv=>simp only[AV.under];simp;exact(List.getElem?_eq_some_iff.1 hL).1
 | psn l c=>rfl
 | pss b o l c=>rfl
 | clo f cs ws hn hR ih=>
   simp only[AV.under]
   rw[underL_iff]
   intro y hy
   obtain⟨j,hj⟩:=List.getElem?_of_mem hy
   exact ih j y hj
 | clb f cs ws hn hR ih=>
   simp only[AV.under]
   rw[underL_iff]
   intro y hy
   obtain⟨j,hj⟩:=List.getElem?_of_mem hy
   exact ih j y hj
 | agg cs ws hn hs hR ih=>
   simp only[AV.under]
   rw[underL_iff]
   intro y hy
   obtain⟨j,hj⟩:=List.getElem?_of_mem hy
   exact ih j y hj
 | tup cs ws hn hR ih=>
   simp only[AV.under]
   rw[underL_iff]
   intro y hy
   obtain⟨j,hj⟩:=List.getElem?_of_mem hy
   exact ih j y hj
 | _=>rfl
theorem Rep.restrict {n:Nat} {a:AV} {v:Value} (h:Rep I L a v) (hu:AV.under n a=true):Rep I (L.take n) a v:=by
 induction h with
 | top v=>exact .top v
 | int k n=>exact .int k n
 | bool b=>exact .bool b
 | str s=>exact .str s
 | nilp=>exact .nilp
 | nilf=>exact .nilf
 | nili=>exact .nili
 | nilm=>exact .nilm
 | nilsl t=>exact .nilsl t
 | sl t xs b o c k f hc ht hk hI hR ih=>
   simp only[AV.under]at hu
   rw[underL_iff]at hu
   refine .sl t xs b o c k f hc ht hk hI (fun i j x y h1 h2=>ih i j x y h1 h2 ?_)
   exact(under_cells n x).1 (hu x (List.mem_of_getElem? h1)) y (List.mem_of_getElem? h2)
 | pt cs b o f hI hR ih=>
   simp only[AV.under]at hu
   rw[underL_iff]at hu
   exact .pt cs b o f hI (fun j y h=>ih j y h (hu y (List.mem_of_getElem? h)))
 | rf id tot i j l b o hL ht hv=>
   simp only[AV.under]at hu
   simp at hu
   exact .rf id tot i j l b o (by rw[List.getElem?_take,if_pos hu];exact hL) ht hv
 | ms id k tot off len l b o c hL ht hk hl hc hv=>
   simp only[AV.under]at hu
   simp at hu
   exact .ms id k tot off len l b o c (by rw[List.getElem?_take,if_pos hu];exact hL) ht hk hl hc hv
 | mpr id l b hL hv=>
   simp only[AV.under]at hu
   simp at hu
   exact .mpr id l b (by rw[List.getElem?_take,if_pos hu];exact hL) hv
 | psn l c=>exact .psn l c
 | pss b o l c=>exact .pss b o l c
 | msn id k l hL hk=>
   simp only[AV.under]at hu
   simp at hu
   exact .msn id k l (by rw[List.getElem?_take,if_pos hu];exact hL) hk
 | clo f cs ws hn hR ih=>
   simp only[AV.under]at hu
   rw[underL_iff]at hu
   exact .clo f cs ws hn (fun j y h=>ih j y h (hu y (List.mem_of_getElem? h)))
 | clb f cs ws hn hR ih=>
   simp only[AV.under]at hu
   rw[underL_iff]at hu
   exact .clb f cs ws hn (fun j y h=>ih j y h (hu y (List.mem_of_getElem? h)))
 | agg cs ws hn hs hR ih=>
   simp only[AV.under]at hu
   rw[underL_iff]at hu
   exact .agg cs ws hn hs (fun j y h=>ih j y h (hu y (List.mem_of_getElem? h)))
 | tup cs ws hn hR ih=>
   simp only[AV.under]at hu
   rw[underL_iff]at hu
   exact .tup cs ws hn (fun j y h=>ih j y h (hu y (List.mem_of_getElem? h)))
theorem Rep.bare {a:AV} {v:Value} (h:Rep I L a v) (hu:AV.under 0 a=true) (L2:List Lay):Rep I L2 a v:=by
 have h1:Rep I [] a v:=by simpa using h.restrict hu
 exact h1.mono ⟨fun _ _ _ h=>h,fun id l h=>by simp at h⟩
theorem Inv.behind (hi:Inv B0 w0 I H L w) {K:List MB} {L':List Lay} (hj:Inv w.heap.size ⟨w,I⟩ I' K L' w') (hx:∀ b o v,I b o=some v→I' b o=some v):Inv B0 w0 I' H L w':=by
 have hx2:Ext I L I' L:=⟨hx,(Ext.refl I L).lay⟩
 have hb:=hj.below
 have h1:Inv B0 w0 I H L w':=hi.same (hi.below.trans (hb.mono hi.base)) (Nat.le_trans hi.base hj.base) (fun b h=>hb.block b h)
 refine⟨h1.below,h1.base,h1.len,fun id m l hm hl=>?_,h1.inj,hj.imm,fun b o h=>?_⟩
 ·
  exact MbOk.mono hx2 (fun hn c=>hj.old l.b c (hi.lay_lt hl hn)) (h1.blk id m l hm hl)
 ·have:=hi.base
  rw[hj.old b o (by show b < w.heap.size;omega)]
  exact hi.old b o h
theorem frame_sound {f:Nat} {as:List AV} {H1 H' K:List MB} {r0 r:AV} (hu:AV.underL 0 as=true) (hs:CallSound P f as [] r0 K) (hr:rebase H1 (some (r0,K))=some (r,H')) :
  CallSound P f as H1 r H':=by
 refine⟨hs.1,fun B0 w0 w I L us hi hus=>?_⟩
 have hi0:Inv w.heap.size ⟨w,I⟩ I [] [] w:=⟨Below.refl _ _,Nat.le_refl _,rfl,fun id m l h=>by simp at h,fun i j l l' h=>by simp at h,hi.imm,fun _ _ _=>rfl⟩
 have hus0:RepL I [] as us:=⟨hus.1,fun i y hy=>(hus.2 i y hy).bare ((underL_iff 0 as).1 hu y (List.mem_of_getElem? hy)) []⟩
 refine(hs.2 _ _ w I [] us hi0 hus0).mono ?_
 rintro e w' ⟨v,I',L',rfl,hj,hx,hv⟩
 have hb:=hi.behind hj hx.imm
 unfold rebase at hr
 split at hr
 ·rename_i q r1 heq
  simp at heq;obtain⟨rfl,rfl⟩:=heq
  split at hr
  ·rename_i hu1
   simp at hr;obtain⟨rfl,rfl⟩:=hr
   exact⟨v,I',L,rfl,hb,⟨hx.imm,(Ext.refl I L).lay⟩,hv.bare hu1 L⟩
  ·simp at hr
 ·rename_i q k tot off len k' els z heq
  simp at heq;obtain⟨rfl,rfl⟩:=heq
  split at hr
  ·rename_i hu1
   simp at hr;obtain⟨rfl,rfl⟩:=hr
   have hl1:L'.length=1:=by rw[hj.len];rfl
   obtain⟨l',hl'⟩:∃ l',L' = [l']:=by
    match L',hl1 with
    | [l'],_=>exact⟨l',rfl⟩
   subst hl'
   have hblk:BlkOk w.heap.size I' [l'] w' k' els z l':=hj.blk 0 _ l' rfl rfl
   have hlb:=hblk.hB
   have hxx:Ext I' L I' (L++[l']):=ext_push _ _ _
   refine⟨v,I',L++[l'],rfl,⟨hb.below,hb.base,by simp[hb.len],fun id m l hm hl=>?_,fun i j li lj g1 g2 n1 n2 g3=>?_,hb.imm,hb.old⟩,(⟨hx.imm,(Ext.refl I L).lay⟩:Ext I L I' L).trans hxx,?_⟩
   ·by_cases hid:id < L.length
    ·rw[List.getElem?_append_left hid]at hl
     rw[List.getElem?_append_left (by rw[← hb.len];exact hid)]at hm
     exact MbOk.mono hxx (fun _ _=>rfl) (hb.blk id m l hm hl)
    ·have hie:id=L.length:=by
      have:=(List.getElem?_eq_some_iff.1 hl).1
      simp at this;omega
     subst hie
     rw[List.getElem?_append_right (Nat.le_refl _),Nat.sub_self]at hl
     rw[List.getElem?_append_right (by rw[hb.len];exact Nat.le_refl _),hb.len,Nat.sub_self]at hm
     simp at hm hl
     subst hm;subst hl
     refine⟨hblk.hk,hblk.ht,hblk.hsh,hblk.hz,fun hn=>Nat.le_trans hi.base (hlb hn),hblk.wid,hblk.fit,fun hn=>?_,hblk.free⟩
     obtain⟨cs,T,f1,f2,f3,f4⟩:=BlkOk.blk hblk hn
     refine⟨cs,T,f1,f2,fun i j x y g1 g2 g3=>?_,f4⟩
     obtain⟨u,u1,u2,u3⟩:=f3 i j x y g1 g2 g3
     refine⟨u,u1,u2,u3.bare ?_ _⟩
     exact(under_cells 0 x).1 ((underL_iff 0 els).1 hu1 x (List.mem_of_getElem? g1)) y (List.mem_of_getElem? g2)
   ·have hcase:∀(i:Nat) (li:Lay),(L++[l'])[i]?=some li→(L[i]?=some li)∨(i=L.length∧li=l'):=by
     intro i li hli
     by_cases h:i < L.length
     ·rw[List.getElem?_append_left h]at hli;exact .inl hli
     ·rw[List.getElem?_append_right (by omega)]at hli
      have h4:=(List.getElem?_eq_some_iff.1 hli).1
      simp at h4
      have hie:i - L.length=0:=by omega
      rw[hie]at hli
      simp at hli
      exact .inr ⟨by omega,hli.symm⟩
    have hne:∀(i:Nat) (li:Lay),L[i]?=some li→li.n≠0→l'.n≠0→li.b≠l'.b:=fun i li h hn hn' e=>by
     have:=hi.lay_lt h hn
     have:=hlb hn'
     omega
    rcases hcase i li g1 with a|⟨a1,a2⟩<;>rcases hcase j lj g2 with b|⟨b1,b2⟩
    ·exact hb.inj i j li lj a b n1 n2 g3
    ·subst b2;exact absurd g3 (hne i li a n1 n2)
    ·subst a2;exact absurd g3.symm (hne j lj b n2 n1)
    ·omega
   ·cases hv with
    | msn _ _ l hL hk=>
      have hll:l' = l:=by simpa using hL
      subst hll
      exact .msn _ k l' (by rw[← hb.len];rw[List.getElem?_append_right (Nat.le_refl _),Nat.sub_self];rfl) hk
    | ms _ _ _ _ _ l b o c hL ht hk hl hc hv2=>
      have hll:l' = l:=by simpa using hL
      subst hll
      exact .ms _ k tot off len l' b o c (by rw[← hb.len];rw[List.getElem?_append_right (Nat.le_refl _),Nat.sub_self];rfl) ht hk hl hc hv2
  ·simp at hr
 ·simp at hr
theorem evAlone_sound (hcf:CfOk P cf):CfOk P (evAlone cf):=by
 intro f args H r H' h
 unfold evAlone at h
 split at h
 ·rename_i hu
  split at h
  ·rename_i r0 h0
   split at h
   ·rename_i h1
    simp only[Option.some.injEq,Prod.mk.injEq]at h
    obtain⟨rfl,rfl⟩:=h
    exact frame_sound hu (hcf _ _ _ _ _ h0) (by simp only[rebase];rw[if_pos h1])
   ·cases h
  ·cases h
 ·cases h
end Go.Ev
namespace Go.Ev
open Go.RowKit
variable {P:Program} {B0:Nat} {w0:Base} {w:World} {I:Imm} {H:List MB} {L:List Lay}
def allIn (w:World):Imm:=fun b o=>w.cell? ⟨b,o,none⟩
theorem allIn_base (w:World):Inv w.heap.size ⟨w,allIn w⟩ (allIn w) [] [] w:=
 ⟨Below.refl _ _,Nat.le_refl _,rfl,fun id m l h=>by simp at h,fun i j l l' h=>by simp at h,fun _ _ _ h=>h,fun _ _ _=>rfl⟩
theorem Inv.all (hi:Inv B0 w0 I H L w) {y:AV} {v:Value} (h:Rep I L y v) (hu:AV.under 0 y=true):Rep (allIn w) [] y v:=
 (h.bare hu []).mono ⟨fun b o v h=>hi.imm b o v h,(Ext.refl (allIn w) []).lay⟩
theorem Inv.thaw (hi:Inv B0 w0 I H L w) {id k n z:Nat} {els:List AV} (hr:getRow H id=some (k,els,z)) (hn:n=els.length) (hu:∀ x∈els,∀ y∈x.cells,AV.under 0 y=true) {v:Value}
  (h:Rep I L (.ms id k n 0 n) v):Rep (allIn w) [] (.sl false els) v:=by
 obtain⟨l,hl,hb⟩:=hi.row hr
 subst hn
 generalize ha:AV.ms id k els.length 0 els.length=a at h
 cases h with
 | ms id' k' tot off len l' b o c hL ht hk hl' hc hv=>
   simp at ha;obtain⟨rfl,rfl,rfl,rfl,rfl⟩:=ha
   rw[hl]at hL
   obtain rfl:=Option.some.inj hL
   obtain⟨s1,s2,s3,s4,s5⟩:=hv hb.ht.symm
   refine .sl false els b o c k (fun i j=>(w.cell? ⟨b,o+i * k+j,none⟩).getD undef) hc (fun h=>by cases h) hb.wid (fun i j x y h1 h2=>?_) (fun i j x y h1 h2=>?_)
   all_goals
    have hi1:=(List.getElem?_eq_some_iff.1 h1).1
    have hn0:l.n≠0:=by
     have hj:=(List.getElem?_eq_some_iff.1 h2).1
     rw[hb.wid x (List.mem_of_getElem? h1)]at hj
     have hf:=hb.fit
     have:0 < (els.length - l.sh) * k:=Nat.mul_pos (by omega) (by omega)
     omega
    obtain⟨cs,T,hcs,hcsz,hcell,hfz⟩:=hb.blk hn0
    obtain⟨u,a1,a2,a3⟩:=hcell i j x y h1 h2 (by omega)
    have hsh:l.sh=0:=by omega
    have e1:=s3 (by omega)
    rw[hsh]at a1 e1
    have e2:w.cell? ⟨b,o+i * k+j,none⟩=some u:=by
     rw[s2,World.cell_of_heap hcs,e1,← a1]
     simp
   ·show w.cell? _=_∧_
    rw[e2];exact⟨rfl,a2⟩
   ·show Rep _ _ y ((w.cell? _).getD undef)
    rw[e2];exact hi.all a3 (hu x (List.mem_of_getElem? h1) y (List.mem_of_getElem? h2))
 | msn id' k' l' hL hk=>
   simp at ha
   obtain⟨_,_,h0⟩:=ha
   rw[h0];exact .nilsl false
 | _=>cases ha
theorem thaw_sound {f:Nat} {as as0:List AV} {k:IntKind} {n:Int} {K:List MB} (hs:CallSound P f as0 [] (.int k n) K)
  (hrel:∀(B0:Nat) (w0:Base) (w:World) (I:Imm) (L:List Lay) (us:Array Value),Inv B0 w0 I H L w→RepL I L as us→RepL (allIn w) [] as0 us):CallSound P f as H (.int k n) H:=by
 refine⟨hs.1,fun B0 w0 w I L us hi hus=>?_⟩
 refine(hs.2 _ _ w (allIn w) [] us (allIn_base w) (hrel _ _ _ _ _ _ hi hus)).mono ?_
 rintro e w' ⟨v,I',L',rfl,hj,hx,hv⟩
 have hb:=hj.below
 have hv':v=.int k n:=by
  generalize hq:AV.int k n=q at hv
  cases hv with
  | int k n=>simp at hq;obtain⟨rfl,rfl⟩:=hq;rfl
  | _=>cases hq
 subst hv'
 exact⟨_,I,L,rfl,hi.same (hi.below.trans (hb.mono hi.base)) (Nat.le_trans hi.base hj.base) (fun b h=>hb.block b h),Ext.refl _ _,.int k n⟩
theorem thw1_rel (hi:Inv B0 w0 I H L w) {x y:AV} {v:Value} (h:thw1 H x=some y) (hv:Rep I L x v):Rep (allIn w) [] y v:=by
 have pl:AV.under 0 x=true→y=x→Rep (allIn w) [] y v:=fun hu e=>by rw[e];exact hi.all hv hu
 cases x with
 | ms id k tot off len=>
   simp only[thw1]at h
   split at h
   ·rename_i k' els z hr
    split at h
    ·rename_i hc
     obtain⟨h1,rfl,rfl,rfl,h2⟩:=hc
     cases h
     exact hi.thaw hr h1.symm (fun x hx y hy=>by
      have:=List.all_eq_true.1 h2 x hx
      exact(underL_iff 0 x.cells).1 this y hy) hv
    ·cases h
   ·cases h
 | _=>
   simp only[thw1]at h
   split at h
   ·rename_i hu
    exact pl hu (Option.some.inj h).symm
   ·cases h
theorem thwL_rel (hi:Inv B0 w0 I H L w):∀ {xs ys:List AV},thwL H xs=some ys→ys.length=xs.length∧∀(i:Nat) (y:AV),ys[i]?=some y→∃ x:AV,xs[i]?=some x∧thw1 H x=some y
 | [],ys,h=>by
   simp only[thwL,Option.some.injEq]at h
   subst h
   exact⟨rfl,fun i y h=>by simp at h⟩
 | x::xs,ys,h=>by
   simp only[thwL]at h
   split at h
   ·rename_i y ys' h1 h2
    cases h
    obtain⟨e1,e2⟩:=thwL_rel hi h2
    refine⟨by simp[e1],fun i z hz=>?_⟩
    cases i with
    | zero=>exact⟨x,rfl,by simp at hz;rw[← hz];exact h1⟩
    | succ i=>exact e2 i z (by simpa using hz)
   ·cases h
theorem thw_rel (hi:Inv B0 w0 I H L w) {x y:AV} {v:Value} (h:thw H x=some y) (hv:Rep I L x v):Rep (allIn w) [] y v:=by
 cases x with
 | agg cs=>
   simp only[thw,Option.map_eq_some_iff]at h
   obtain⟨ys,h1,rfl⟩:=h
   obtain⟨e1,e2⟩:=thwL_rel hi h1
   generalize ha:AV.agg cs=a at hv
   cases hv with
   | agg cs' ws hn hs hR=>
     simp at ha;subst ha
     refine .agg ys ws (by rw[hn,e1]) hs fun i y hy=>?_
     obtain⟨x,hx,ht⟩:=e2 i y hy
     exact thw1_rel hi ht (hR i x hx)
   | _=>cases ha
 | _=>exact thw1_rel hi (by simpa only[thw] using h) hv
theorem thwA_rel (hi:Inv B0 w0 I H L w):∀ {xs ys:List AV},thwA H xs=some ys→ys.length=xs.length∧∀(i:Nat) (y:AV),ys[i]?=some y→∃ x:AV,xs[i]?=some x∧thw H x=some y
 | [],ys,h=>by
   simp only[thwA,Option.some.injEq]at h
   subst h
   exact⟨rfl,fun i y h=>by simp at h⟩
 | x::xs,ys,h=>by
   simp only[thwA]at h
   split at h
   ·rename_i y ys' h1 h2
    cases h
    obtain⟨e1,e2⟩:=thwA_rel hi h2
    refine⟨by simp[e1],fun i z hz=>?_⟩
    cases i with
    | zero=>exact⟨x,rfl,by simp at hz;rw[← hz];exact h1⟩
    | succ i=>exact e2 i z (by simpa using hz)
   ·cases h
theorem evThaw_sound {cf:CF} (hcf:CfOk P cf):CfOk P (evThaw cf):=by
 intro f args H r H' h
 unfold evThaw at h
 split at h
 ·rename_i as ha
  split at h
  ·rename_i k n K h0
   simp only[Option.some.injEq,Prod.mk.injEq]at h
   obtain⟨rfl,rfl⟩:=h
   refine thaw_sound (hcf _ _ _ _ _ h0) fun B0 w0 w I L us hi hus=>?_
   obtain⟨e1,e2⟩:=thwA_rel hi ha
   obtain⟨hsz,hat⟩:=hus
   refine⟨by rw[hsz,e1],fun i y hy=>?_⟩
   obtain⟨x,hx,ht⟩:=e2 i y hy
   exact thw_rel hi ht (hat i x hx)
  ·cases h
 ·cases h
end Go.Ev
