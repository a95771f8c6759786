/- append onto a slice that came as an argument: what is kept of the old blocks, and the state of a function that does so. -/
import Derived.Test.YtjgmfjneajcbmaaGreatF07
import Derived.Test.YtjgmfjneajcbmaaGreatF06
set_option linter.unusedVariables false
set_option linter.unusedSimpArgs false
namespace Go.Ev
open Go.RowKit
structure Fr (sp:Option (Nat×Nat)) (w w':World):Prop where
 os:w'.os=w.os
 tape:w'.tape=w.tape
 output:w'.output=w.output
 size:w.heap.size≤w'.heap.size
 same:∀ k,k < w.heap.size→(∀ o,sp≠some (k,o))→w'.heap[k]?=w.heap[k]?
 spare:∀ k o,sp=some (k,o)→∀ cs T,w.heap[k]?=some (.cells cs T)→∃ cs',w'.heap[k]?=some (.cells cs' T)∧cs'.size=cs.size∧∀ c,c < o→cs'[c]?=cs[c]?
 odd:∀ k o,sp=some (k,o)→∃ cs T,w.heap[k]?=some (.cells cs T)
def SpLe (n:Nat) (sp sp1:Option (Nat×Nat)):Prop:=∀ k o1,sp1=some (k,o1)→k < n→∃ o,sp=some (k,o)∧o≤o1
def SpHas (sp:Option (Nat×Nat)) (w:World):Prop:=∀ k o,sp=some (k,o)→∃ cs T,w.heap[k]?=some (.cells cs T)
def ImmFree (sp:Option (Nat×Nat)) (I:Imm):Prop:=∀ k o,sp=some (k,o)→∀ c,o≤c→I k c=none
def Val (I:Imm) (w:World):Prop:=∀ b o v,I b o=some v→w.cell? ⟨b,o,none⟩=some v
theorem Fr.refl {sp:Option (Nat×Nat)} {w:World} (h:SpHas sp w):Fr sp w w:=⟨rfl,rfl,rfl,Nat.le_refl _,fun _ _ _=>rfl,fun _ _ _ cs _ h=>⟨cs,h,rfl,fun _ _=>rfl⟩,h⟩
theorem Fr.thenS {sp sp1:Option (Nat×Nat)} {w w1 w2:World} (h:Fr sp w w1) (k:Fr sp1 w1 w2) (hle:SpLe w.heap.size sp sp1):Fr sp w w2:=by
 refine⟨k.os.trans h.os,k.tape.trans h.tape,k.output.trans h.output,Nat.le_trans h.size k.size,fun b hb hn=>?_,fun b o hs cs T hc=>?_,h.odd⟩
 ·rw[← h.same b hb hn]
  refine k.same b (Nat.lt_of_lt_of_le hb h.size) (fun o1 e=>?_)
  obtain⟨o,e2,_⟩:=hle b o1 e hb
  exact hn o e2
 ·have hb:b < w.heap.size:=(Array.getElem?_eq_some_iff.1 hc).1
  obtain⟨cs1,e1,e2,e3⟩:=h.spare b o hs cs T hc
  by_cases hx:∃ o1,sp1=some (b,o1)
  ·obtain⟨o1,hx⟩:=hx
   obtain⟨o',g1,g2⟩:=hle b o1 hx hb
   rw[hs]at g1
   simp at g1;subst g1
   obtain⟨cs2,f1,f2,f3⟩:=k.spare b o1 hx cs1 T e1
   exact⟨cs2,f1,f2.trans e2,fun c hc=>(f3 c (by omega)).trans (e3 c hc)⟩
  ·exact⟨cs1,by rw[k.same b (Nat.lt_of_lt_of_le hb h.size) (fun o e=>hx ⟨o,e⟩)];exact e1,e2,e3⟩
theorem SpLe.self (n:Nat) (sp:Option (Nat×Nat)):SpLe n sp sp:=fun _ o h _=>⟨o,h,Nat.le_refl _⟩
theorem SpLe.none (n:Nat) (sp:Option (Nat×Nat)):SpLe n sp none:=fun _ _ h=>by cases h
theorem Fr.trans {sp:Option (Nat×Nat)} {w w1 w2:World} (h:Fr sp w w1) (k:Fr sp w1 w2):Fr sp w w2:=h.thenS k (SpLe.self _ _)
theorem Fr.ofBelow {sp:Option (Nat×Nat)} {w w':World} (h:Below w.heap.size w w') (hs:SpHas sp w):Fr sp w w':=
 ⟨h.os,h.tape,h.output,h.size,fun k hk _=>h.block k hk,fun k _ _ cs T e=>⟨cs,by rw[h.block k (Array.getElem?_eq_some_iff.1 e).1];exact e,rfl,fun _ _=>rfl⟩,hs⟩
theorem Fr.val {sp:Option (Nat×Nat)} {w w':World} {I:Imm} (h:Fr sp w w') (hf:ImmFree sp I) (hv:Val I w):Val I w':=by
 intro b o v hb
 have h1:=hv b o v hb
 by_cases hx:∃ o1,sp=some (b,o1)
 ·obtain⟨o1,hx⟩:=hx
  obtain⟨cs,T,hc⟩:=h.odd b o1 hx
  obtain⟨cs',e1,e2,e3⟩:=h.spare b o1 hx cs T hc
  have ho:o < o1:=by
   rcases Nat.lt_or_ge o o1 with g|g
   ·exact g
   ·rw[hf b o1 hx o g]at hb;cases hb
  rw[World.cell_of_heap hc]at h1
  rw[World.cell_of_heap e1,e3 o ho];exact h1
 ·have hlt:b < w.heap.size:=World.block_lt_of_cell? (w:=w) (a:=⟨b,o,none⟩) h1
  unfold World.cell? at h1 ⊢
  rw[h.same b hlt (fun o e=>hx ⟨o,e⟩)];exact h1
theorem Val.inv {I:Imm} {w:World} (h:Val I w):Inv w.heap.size ⟨w,I⟩ I [] [] w:=
 ⟨Below.refl _ _,Nat.le_refl _,rfl,fun _ _ _ h=>by simp at h,fun _ _ _ _ h=>by simp at h,h,fun _ _ _=>rfl⟩
def spOf:Value→Option (Nat×Nat)
 | .slice (some a) l c=>if l < c then some (a.block,a.off+l) else none
 | _=>none
def SliceOk (I:Imm) (w:World) (s:Value) (ins:List Int):Prop:=
 (s=.slice none 0 0∧ins=[])∨∃ b o c,s=.slice (some ⟨b,o,none⟩) ins.length c∧ins.length≤c∧(ins.length < c→∃ cs T,w.heap[b]?=some (.cells cs T)∧o+c≤cs.size) ∧
   (∀ i x,ins[i]?=some x→I b (o+i)=some (.int .i64 x))∧(ins.length < c→∀ q,o+ins.length≤q→I b q=none)
theorem SliceOk.rep {I:Imm} {w:World} {s:Value} {ins:List Int} {L:List Lay} (h:SliceOk I w s ins):Rep I L (.sl false (ins.map fun n=>AV.int .i64 n)) s:=by
 rcases h with ⟨rfl,rfl⟩|⟨b,o,c,rfl,h1,h2,h3,h4⟩
 ·exact .nilsl false
 ·have h5:∀(i j:Nat) (x y:AV),(ins.map fun n=>AV.int .i64 n)[i]?=some x→x.cells[j]?=some y→∃ n,ins[i]?=some n∧j=0∧y=.int .i64 n:=by
   intro i j x y hx hy
   rw[List.getElem?_map]at hx
   cases hn:ins[i]? with
   | none=>rw[hn]at hx;simp at hx
   | some n=>
     rw[hn]at hx;simp at hx;subst hx
     match j,hy with
     | 0,hy=>simp[AV.cells]at hy;exact⟨n,rfl,rfl,hy.symm⟩
     | j+1,hy=>simp[AV.cells]at hy
  have:=Rep.sl (I:=I) (L:=L) false (ins.map fun n=>AV.int .i64 n) b o c 1 (fun i j=>.int .i64 (ins.getD i 0)) (by simpa using h1) (fun h=>by cases h)
   (fun x hx=>by obtain⟨n,_,rfl⟩:=List.mem_map.1 hx;rfl)
   (fun i j x y hx hy=>by
     obtain⟨n,e1,e2,e3⟩:=h5 i j x y hx hy
     subst e2
     refine⟨?_,rfl⟩
     rw[Nat.mul_one,Nat.add_zero,h3 i n e1]
     simp[List.getD_eq_getElem?_getD,e1])
   (fun i j x y hx hy=>by
     obtain⟨n,e1,e2,e3⟩:=h5 i j x y hx hy
     subst e3
     simp only[List.getD_eq_getElem?_getD,e1,Option.getD_some]
     exact .int .i64 n)
  simpa using this
theorem SliceOk.free {I:Imm} {w:World} {s:Value} {ins:List Int} (h:SliceOk I w s ins):ImmFree (spOf s) I:=by
 rcases h with ⟨rfl,rfl⟩|⟨b,o,c,rfl,h1,h2,h3,h4⟩
 ·intro k o h;cases h
 ·intro k o' hk q hq
  simp only[spOf]at hk
  split at hk
  ·rename_i hlt
   simp at hk;obtain⟨rfl,rfl⟩:=hk
   exact h4 hlt q hq
  ·cases hk
theorem SliceOk.has {I:Imm} {w:World} {s:Value} {ins:List Int} (h:SliceOk I w s ins):SpHas (spOf s) w:=by
 rcases h with ⟨rfl,rfl⟩|⟨b,o,c,rfl,h1,h2,h3,h4⟩
 ·intro k o h;cases h
 ·intro k o' hk
  simp only[spOf]at hk
  split at hk
  ·rename_i hlt
   simp at hk;obtain⟨rfl,rfl⟩:=hk
   obtain⟨cs,T,e,_⟩:=h2 hlt
   exact⟨cs,T,e⟩
  ·cases hk
def Grow (n:Nat) (I I':Imm):Prop:=(∀ b o v,I b o=some v→I' b o=some v)∧∀ b o,b < n→I' b o=I b o
theorem SliceOk.later {I I':Imm} {w w':World} {s:Value} {ins:List Int} (h:SliceOk I w s ins) (hf:Fr (spOf s) w w') (hg:Grow w.heap.size I I'):SliceOk I' w' s ins:=by
 rcases h with ⟨rfl,rfl⟩|⟨b,o,c,rfl,h1,h2,h3,h4⟩
 ·exact .inl ⟨rfl,rfl⟩
 ·refine .inr ⟨b,o,c,rfl,h1,fun hlt=>?_,fun i x hi=>hg.1 _ _ _ (h3 i x hi),fun hlt q hq=>?_⟩
  ·obtain⟨cs,T,e1,e2⟩:=h2 hlt
   obtain⟨cs',g1,g2,_⟩:=hf.spare b (o+ins.length) (by simp[spOf,hlt]) cs T e1
   exact⟨cs',T,g1,by omega⟩
  ·obtain⟨cs,T,e1,e2⟩:=h2 hlt
   rw[hg.2 b q (Array.getElem?_eq_some_iff.1 e1).1];exact h4 hlt q hq
def HSt (I0:Imm) (w0:World) (sp:Option (Nat×Nat)) (n:Nat) (t:Tm) (a:Act) (w:World):Prop:=
 ∃ I,Val I w∧Fr sp w0 w∧Grow w0.heap.size I0 I∧a.defers=[]∧TmOk I [] n t a.tmps
theorem TmOk.bare {I:Imm} {L:List Lay} {n:Nat} {t:Tm} {vs:Array Value} (h:TmOk I L n t vs) (hu:AV.underL 0 (t.map (·.2))=true):TmOk I [] n t vs:=by
 refine⟨h.1,h.2.1,fun q hq=>⟨(h.2.2 q hq).1,(h.2.2 q hq).2.bare ?_ []⟩⟩
 exact(underL_iff 0 _).1 hu q.2 (List.mem_map.2 ⟨q,hq,rfl⟩)
variable {P:Program}
theorem HSt.open_ {I0:Imm} {w0:World} {sp:Option (Nat×Nat)} {n:Nat} {t:Tm} {a:Act} {w:World} (h:HSt I0 w0 sp n t a w):∃ I,Val I w∧Fr sp w0 w∧Grow w0.heap.size I0 I∧StOk w.heap.size ⟨w,I⟩ I [] ⟨n,t,[]⟩ a w:=by
 obtain⟨I,h1,h2,h3,h4,h5⟩:=h
 exact⟨I,h1,h2,h3,I,[],h1.inv,.refl _ _,h4,h5⟩
theorem HSt.close {I0:Imm} {w0:World} {sp:Option (Nat×Nat)} {s:St} {a':Act} {w w':World} {I:Imm} (h2:Fr sp w0 w) (h3:Grow w0.heap.size I0 I) (hsp:∀ k o,sp=some (k,o)→k < w0.heap.size)
  (h:StOk w.heap.size ⟨w,I⟩ I [] s a' w') (hu:AV.underL 0 (s.t.map (·.2))=true):HSt I0 w0 sp s.n s.t a' w':=by
 obtain⟨I',L',i1,i2,i3,i4⟩:=h
 refine⟨I',i1.imm,h2.trans (Fr.ofBelow i1.below fun k o hk=>?_),⟨fun b o v hb=>i2.imm b o v (h3.1 b o v hb),fun b o hb=>?_⟩,i3,i4.bare hu⟩
 ·obtain⟨cs,T,hc⟩:=h2.odd k o hk
  obtain⟨cs',e,_⟩:=h2.spare k o hk cs T hc
  exact⟨cs',T,e⟩
 ·rw[i1.old b o (Nat.lt_of_lt_of_le hb h2.size)];exact h3.2 b o hb
theorem HSt.code {cf:CF} {it:It} {mu:List Nat} {m:Cfg} (hcf:CfOk P cf) (hit:ItOk it) (hm:P.follows .mixedOrders=true) {I0:Imm} {w0:World} {sp:Option (Nat×Nat)} {n:Nat} {t:Tm} {a:Act} {w:World}
  (h:HSt I0 w0 sp n t a w) (hsp:∀ k o,sp=some (k,o)→k < w0.heap.size) {c:Code} {e:EX} {s':St} (he:evCode P cf it mu m c ⟨n,t,[]⟩=some (e,s')) (hu:AV.underL 0 (s'.t.map (·.2))=true) {Q:Exit→Act→World→Prop}
  (hQ:∀ a' w',HSt I0 w0 sp s'.n s'.t a' w'→Q (match e with | .norm=>.normal | .exit id=>.exit id | .ret=>.ret) a' w'):c.wp P Q a w:=by
 obtain⟨I,h1,h2,h3,h4⟩:=h.open_
 refine wp_mono (evCode_sound (fun i n _=>Nat.zero_le _) hcf hit hm c he h4) (fun e1 a1 w1 hp=>?_)
 cases e1 with
 | normal=>
   obtain⟨g1,g2⟩:=hp
   subst g1
   exact hQ a1 w1 (HSt.close h2 h3 hsp g2 hu)
 | exit id=>
   obtain⟨g1,g2⟩:=hp
   subst g1
   exact hQ a1 w1 (HSt.close h2 h3 hsp g2 hu)
 | ret=>
   obtain⟨g1,g2⟩:=hp
   subst g1
   exact hQ a1 w1 (HSt.close h2 h3 hsp g2 hu)
 | goto l=>exact hp.elim
 | panic c=>exact hp.elim
 | outgrown=>exact hp.elim
theorem HSt.one {cf:CF} (hcf:CfOk P cf) {mu:List Nat} {ops:Array Oper} {o:Oper} {I0:Imm} {w0:World} {sp:Option (Nat×Nat)} {n:Nat} {t:Tm} {a:Act} {w:World} {rest:List Oper}
  (h:HSt I0 w0 sp n t a w) (hsp:∀ k o,sp=some (k,o)→k < w0.heap.size) {s':St} (he:evOne P cf mu ops.toList o ⟨n,t,[]⟩=some s') (hu:AV.underL 0 (s'.t.map (·.2))=true) {Q:Exit→Act→World→Prop}
  (hQ:∀ a' w',HSt I0 w0 sp s'.n s'.t a' w'→wpList P ops Q rest a' w'):wpList P ops Q (o::rest) a w:=by
 obtain⟨I,h1,h2,h3,h4⟩:=h.open_
 have:=evOne_sound (Q:=Q) (K:=wpList P ops Q rest) hcf he h4 (fun a' w' hs'=>hQ a' w' (HSt.close h2 h3 hsp hs' hu))
 unfold wpList
 split
 ·rename_i hw;rw[if_pos hw]at this;exact .inl this
 ·rename_i hw;rw[if_neg hw]at this;exact this
def exOf:EX→Exit
 | .norm=>.normal
 | .exit id=>.exit id
 | .ret=>.ret
theorem HSt.W {cf:CF} {it:It} {mu:List Nat} {m:Cfg} (hcf:CfOk P cf) (hit:ItOk it) (hm:P.follows .mixedOrders=true) {I0:Imm} {w0:World} {sp:Option (Nat×Nat)} {n:Nat} {t:Tm} {a:Act} {w:World}
  (h:HSt I0 w0 sp n t a w) (hsp:∀ k o,sp=some (k,o)→k < w0.heap.size) {c:Code} {Q:Exit→Act→World→Prop}
  (hw:Go.Ev.W P cf it mu m c ⟨n,t,[]⟩ (fun e s'=>AV.underL 0 (s'.t.map (·.2))=true∧∀ a' w',HSt I0 w0 sp s'.n s'.t a' w'→Q (exOf e) a' w') .mk):c.wp P Q a w:=by
 obtain⟨⟨e,s'⟩,h1,h2,h3⟩:=hw
 refine h.code hcf hit hm hsp h1 h2 (fun a' w' h=>?_)
 have:=h3 a' w' h
 cases e<;>exact this
theorem evOps_then {cf:CF} (hcf:CfOk P cf) {mu:List Nat} {ops:Array Oper} {Q:Exit→Act→World→Prop} {rest:List Oper} {B0:Nat} {w0:Base} {I0:Imm} {L0:List Lay}:∀(l:List Oper) {s s':St} {a:Act} {w:World},evOps P cf mu ops.toList l s=some s'→StOk B0 w0 I0 L0 s a w →
  (∀ a' w',StOk B0 w0 I0 L0 s' a' w'→wpList P ops Q rest a' w')→wpList P ops Q (l++rest) a w
 | [],s,s',a,w,h,hs,hQ=>by
   simp[evOps]at h;subst h
   exact hQ a w hs
 | o::l,s,s',a,w,h,hs,hQ=>by
   simp only[evOps]at h
   split at h
   ·rename_i s1 h1
    have:=evOne_sound (Q:=Q) (K:=wpList P ops Q (l++rest)) hcf h1 hs (fun a' w' hs'=>evOps_then hcf l h hs' hQ)
    rw[List.cons_append]
    unfold wpList
    split
    ·rename_i hw;rw[if_pos hw]at this;exact .inl this
    ·rename_i hw;rw[if_neg hw]at this;exact this
   ·simp at h
theorem HSt.ops {cf:CF} (hcf:CfOk P cf) {mu:List Nat} {ops:Array Oper} {I0:Imm} {w0:World} {sp:Option (Nat×Nat)} {n:Nat} {t:Tm} {a:Act} {w:World}
  (h:HSt I0 w0 sp n t a w) (hsp:∀ k o,sp=some (k,o)→k < w0.heap.size) {Q:Exit→Act→World→Prop} (k:Nat) {l:List Oper}
  (hw:WO P cf mu ops.toList (l.take k) ⟨n,t,[]⟩ (fun s'=>AV.underL 0 (s'.t.map (·.2))=true∧∀ a' w',HSt I0 w0 sp s'.n s'.t a' w'→wpList P ops Q (l.drop k) a' w') .mk):wpList P ops Q l a w:=by
 obtain⟨s',h1,h2,h3⟩:=hw
 obtain⟨I,g1,g2,g3,g4⟩:=h.open_
 rw[← List.take_append_drop k l]
 exact evOps_then hcf _ h1 g4 (fun a' w' hs'=>h3 a' w' (HSt.close g2 g3 hsp hs' h2))
theorem HSt.cond {I0:Imm} {w0:World} {sp:Option (Nat×Nat)} {n:Nat} {t:Tm} {a:Act} {w:World} (h:HSt I0 w0 sp n t a w) {d:Nat} {b:Bool} (hl:look t d=some (.bool b)) {x y:Code} {Q:Exit→Act→World→Prop}
  (hx:if b=true then x.wp P Q a w else y.wp P Q a w):(Code.cond (.tmp d) x y).wp P Q a w:=by
 obtain⟨I,h1,h2,h3,h4,h5⟩:=h
 have hr:Rep I [] (.bool b) (a.eval (.tmp d)):=h5.at hl
 generalize hv:a.eval (.tmp d)=v at hr
 cases hr
 cases b with
 | true=>exact wp_cond_true hv hx
 | false=>exact wp_cond_false hv hx
def pinOf:Value→AV
 | .slice none l c=>.psl none l c
 | .slice (some a) l c=>.psl (some (a.block,a.off)) l c
 | _=>.top
theorem SliceOk.pin {I:Imm} {w:World} {s:Value} {ins:List Int} {J:Imm} {L:List Lay} (h:SliceOk I w s ins):Rep J L (pinOf s) s∧AV.under 0 (pinOf s)=true∧∀ v,Rep J L (pinOf s) v→v=s:=by
 rcases h with ⟨rfl,rfl⟩|⟨b,o,c,rfl,_⟩
 ·refine⟨.psn 0 0,rfl,fun v hv=>?_⟩
  cases hv;rfl
 ·refine⟨.pss b o _ c,rfl,fun v hv=>?_⟩
  cases hv;rfl
theorem HSt.seen {I0:Imm} {w0:World} {s:Value} {n:Nat} {t:Tm} {a:Act} {w:World} (h:HSt I0 w0 (spOf s) n t a w) {ins:List Int} (hs:SliceOk I0 w0 s ins) {d:Nat} (hl:look t d=some (pinOf s)) :
  HSt I0 w0 (spOf s) n (updT d (.sl false (ins.map fun n=>AV.int .i64 n)) t) a w:=by
 obtain⟨I,h1,h2,h3,h4,h5⟩:=h
 refine⟨I,h1,h2,h3,h4,h5.upd ?_⟩
 have h6:=(hs.pin (J:=I) (L:=[])).2.2 _ (h5.at hl)
 rw[h6]
 exact(hs.later h2 h3).rep
theorem HSt.pinned {I0:Imm} {w0:World} {s:Value} {n:Nat} {t:Tm} {a:Act} {w:World} {nums:List Int} (h:HSt I0 w0 (spOf s) n t a w) (hs:SliceOk I0 w0 s nums) {x:Nat} (hx:look t x=some (pinOf s)):a.eval (.tmp x)=s:=by
 obtain⟨I,h1,h2,h3,h4,h5⟩:=h
 exact(hs.pin (J:=I) (L:=[])).2.2 _ (h5.at hx)
theorem HSt.done {I0:Imm} {w0:World} {sp:Option (Nat×Nat)} {n:Nat} {t:Tm} {a:Act} {w:World} (h:HSt I0 w0 sp n t a w) {d:Nat} {b:Bool} (hl:look t d=some (.bool b)) :
  Fr sp w0 w∧a.defers=[]∧a.tmps.getD d undef=.bool b:=by
 obtain⟨I,h1,h2,h3,h4,h5⟩:=h
 refine⟨h2,h4,?_⟩
 have hr:Rep I [] (.bool b) (a.tmps.getD d undef):=h5.at hl
 generalize a.tmps.getD d undef=v at hr
 cases hr;rfl
theorem HSt.sub {I0:Imm} {w0:World} {sp:Option (Nat×Nat)} {n:Nat} {t t':Tm} {a:Act} {w:World} (h:HSt I0 w0 sp n t a w) (hs:t'.Sublist t):HSt I0 w0 sp n t' a w:=by
 obtain⟨I,h1,h2,h3,h4,h5⟩:=h
 exact⟨I,h1,h2,h3,h4,h5.sub hs⟩
end Go.Ev
