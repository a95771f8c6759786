/- append onto a slice that came as an argument: what is kept of the old blocks, and the state of a function that does so. -/
import Derived.Test.YtjgmfjneajcbmaaGreatF08
set_option linter.unusedVariables false
set_option linter.unusedSimpArgs false
open Nat (le_refl lt_of_lt_of_le)
namespace Go.Ev
open Go.RowKit
structure Fr (sp:Option (Nat×Nat)) (w w':World):Prop where
 os:w'.os=w.os
 tape:w'.tape=w.tape
 output:w'.output=w.output
 size:w.heap.size<=w'.heap.size
 same:∀ k,k<w.heap.size->(∀ o,sp≠some (k,o))->w'.heap[k]?=w.heap[k]?
 spare:∀ k o,sp=some (k,o)->∀ cs T,w.heap[k]?=some (.cells cs T)->∃ cs',w'.heap[k]?=some (.cells cs' T)/\cs'.size=cs.size/\∀ c,c<o->cs'[c]?=cs[c]?
 odd:∀ k o,sp=some (k,o)->∃ cs T,w.heap[k]?=some (.cells cs T)
 drawn:w.drawn<=w'.drawn
def SpLe (n:Nat) (sp sp1:Option (Nat×Nat)):Prop:=∀ k o1,sp1=some (k,o1)->k<n->∃ o,sp=some (k,o)/\o<=o1
def SpHas (sp:Option (Nat×Nat)) (w:World):Prop:=∀ k o,sp=some (k,o)->∃ cs T,w.heap[k]?=some (.cells cs T)
def ImmFree (sp:Option (Nat×Nat)) (I:Imm):Prop:=∀ k o,sp=some (k,o)->∀ c,o<=c->I k c=none
abbrev Val (I:Imm) (w:World):Prop:=Holds I w
theorem Fr.refl {sp:Option (Nat×Nat)}{w:World} (h:SpHas sp w):Fr sp w w:=⟨rfl,rfl,rfl,le_refl _,fun _ _ _=>rfl,fun _ _ _ cs _ h=>⟨cs,h,rfl,fun _ _=>rfl⟩,h,le_refl _⟩
theorem Fr.thenS {sp sp1:Option (Nat×Nat)}{w w1 w2:World} (h:Fr sp w w1) (k:Fr sp1 w1 w2) (hle:SpLe w.heap.size sp sp1):Fr sp w w2:=by
 refine⟨k.os.trans h.os,k.tape.trans h.tape,k.output.trans h.output,Nat.le_trans h.size k.size,fun b hb hn=>?_,fun b o hs cs T hc=>?_,h.odd,Nat.le_trans h.drawn k.drawn⟩
 ·rw[<- h.same b hb hn];refine k.same b (lt_of_lt_of_le hb h.size) (fun o1 e=>?_);obtain⟨o,e2,_⟩:=hle b o1 e hb;exact hn o e2
 ·have hb:b<w.heap.size:=(Array.getElem?_eq_some_iff.1 hc).1;obtain⟨cs1,e1,e2,e3⟩:=h.spare b o hs cs T hc;by_cases hx:∃ o1,sp1=some (b,o1)
  ·obtain⟨o1,hx⟩:=hx;obtain⟨o',g1,g2⟩:=hle b o1 hx hb;rw[hs]at g1;simp at g1;subst g1;obtain⟨cs2,f1,f2,f3⟩:=k.spare b o1 hx cs1 T e1;exact⟨cs2,f1,f2.trans e2,fun c hc=>(f3 c (by omega)).trans (e3 c hc)⟩
  ·exact⟨cs1,by rw[k.same b (lt_of_lt_of_le hb h.size) (fun o e=>hx ⟨o,e⟩)];exact e1,e2,e3⟩
theorem SpLe.self (n:Nat) (sp:Option (Nat×Nat)):SpLe n sp sp:=fun _ o h _=>⟨o,h,le_refl _⟩
theorem SpLe.none (n:Nat) (sp:Option (Nat×Nat)):SpLe n sp none:=fun _ _ h=>by cases h
theorem Fr.trans {sp:Option (Nat×Nat)}{w w1 w2:World} (h:Fr sp w w1) (k:Fr sp w1 w2):Fr sp w w2:=h.thenS k (SpLe.self _ _)
theorem Fr.ofBelow {sp:Option (Nat×Nat)}{w w':World} (h:BelowD w.heap.size w w') (hs:SpHas sp w):Fr sp w w':=
 ⟨h.os,h.tape,h.output,h.size,fun k hk _=>h.block k hk,fun k _ _ cs T e=>⟨cs,by rw[h.block k (Array.getElem?_eq_some_iff.1 e).1];exact e,rfl,fun _ _=>rfl⟩,hs,h.drawn⟩
theorem Fr.val {sp:Option (Nat×Nat)}{w w':World}{I:Imm} (h:Fr sp w w') (hf:ImmFree sp I) (hv:Val I w):Val I w':=by
 refine⟨fun b o v hb=>?_,fun D hD=>?_⟩
 rotate_left
 ·have hd:=hv.g D hD;rw[h.same D (Array.getElem?_eq_some_iff.1 hd).1 (fun o e=>by
   obtain⟨cs,T,hc⟩:=h.odd D o e;rw[hd]at hc;cases hc)]
  exact hd
 have h1:=hv.c b o v hb;by_cases hx:∃ o1,sp=some (b,o1)
 ·obtain⟨o1,hx⟩:=hx;obtain⟨cs,T,hc⟩:=h.odd b o1 hx;obtain⟨cs',e1,e2,e3⟩:=h.spare b o1 hx cs T hc;have ho:o<o1:=by
   rcases Nat.lt_or_ge o o1 with g|g
   ·exact g
   ·rw[hf b o1 hx o g]at hb;cases hb
  rw[World.cell_of_heap hc]at h1;rw[World.cell_of_heap e1,e3 o ho];exact h1
 ·have hlt:b<w.heap.size:=World.block_lt_of_cell? (w:=w) (a:=⟨b,o,none⟩) h1;unfold World.cell? at h1 |-;rw[h.same b hlt (fun o e=>hx ⟨o,e⟩)];exact h1
theorem Val.inv {I:Imm}{w:World} (h:Val I w):Inv w.heap.size ⟨w,I,true⟩ I [] [] w:=
 ⟨BelowD.refl _ _,le_refl _,rfl,fun _ _ _ h=>by simp at h,fun _ _ _ _ h=>by simp at h,h,fun _ _ _=>rfl⟩
def spOf:Value->Option (Nat×Nat)
 | .slice (some a) l c=>if l<c then some (a.block,a.off+l) else none
 | _=>none
def SliceOk (I:Imm) (w:World) (s:Value) (ins:List Int):Prop:=
 (s=.slice none 0 0/\ins=[])∨∃ b o c,s=.slice (some ⟨b,o,none⟩) ins.length c/\ins.length<=c/\(ins.length<c->∃ cs T,w.heap[b]?=some (.cells cs T)/\o+c<=cs.size) /\
   (∀ i x,ins[i]?=some x->I b (o+i)=some (.int .i64 x))/\(ins.length<c->∀ q,o+ins.length<=q->I b q=none)
theorem SliceOk.rep {I:Imm}{w:World}{s:Value}{ins:List Int}{L:List Lay} (h:SliceOk I w s ins):Rep I L (.sl false (ins.map fun n=>AV.int .i64 n)) s:=by
 rcases h with ⟨rfl,rfl⟩|⟨b,o,c,rfl,h1,h2,h3,h4⟩
 ·exact .nilsl false
 ·have h5:∀(i j:Nat) (x y:AV),(ins.map fun n=>AV.int .i64 n)[i]?=some x->x.cells[j]?=some y->∃ n,ins[i]?=some n/\j=0/\y=.int .i64 n:=by
   intro i j x y hx hy;rw[List.getElem?_map]at hx;cases hn:ins[i]? with
   | none=>rw[hn]at hx;simp at hx
   | some n=>
     rw[hn]at hx;simp at hx;subst hx
     match j,hy with
     | 0,hy=>simp[AV.cells]at hy;exact⟨n,rfl,rfl,hy.symm⟩
     | j+1,hy=>simp[AV.cells]at hy
  have:=Rep.sl (I:=I) (L:=L) false (ins.map fun n=>AV.int .i64 n) b o c 1 (fun i j=>.int .i64 (ins.getD i 0)) (by simpa using h1) (fun h=>by cases h)
   (fun x hx=>by obtain⟨n,_,rfl⟩:=List.mem_map.1 hx;rfl)
   (fun i j x y hx hy=>by
     obtain⟨n,e1,e2,e3⟩:=h5 i j x y hx hy;subst e2;refine⟨?_,rfl⟩;rw[Nat.mul_one,Nat.add_zero,h3 i n e1];simp[List.getD_eq_getElem?_getD,e1])
   (fun i j x y hx hy=>by
     obtain⟨n,e1,e2,e3⟩:=h5 i j x y hx hy;subst e3;simp only[List.getD_eq_getElem?_getD,e1,Option.getD_some];exact .int .i64 n)
  simpa using this
theorem SliceOk.free {I:Imm}{w:World}{s:Value}{ins:List Int} (h:SliceOk I w s ins):ImmFree (spOf s) I:=by
 rcases h with ⟨rfl,rfl⟩|⟨b,o,c,rfl,h1,h2,h3,h4⟩
 ·intro k o h;cases h
 ·intro k o' hk q hq;simp only[spOf]at hk;split at hk
  ·rename_i hlt;simp at hk;obtain⟨rfl,rfl⟩:=hk;exact h4 hlt q hq
  ·cases hk
theorem SliceOk.has {I:Imm}{w:World}{s:Value}{ins:List Int} (h:SliceOk I w s ins):SpHas (spOf s) w:=by
 rcases h with ⟨rfl,rfl⟩|⟨b,o,c,rfl,h1,h2,h3,h4⟩
 ·intro k o h;cases h
 ·intro k o' hk;simp only[spOf]at hk;split at hk
  ·rename_i hlt;simp at hk;obtain⟨rfl,rfl⟩:=hk;obtain⟨cs,T,e,_⟩:=h2 hlt;exact⟨cs,T,e⟩
  ·cases hk
def Grow (n:Nat) (I I':Imm):Prop:=Grows I I'/\∀ b o,b<n->I' b o=I b o
theorem SliceOk.later {I I':Imm}{w w':World}{s:Value}{ins:List Int} (h:SliceOk I w s ins) (hf:Fr (spOf s) w w') (hg:Grow w.heap.size I I'):SliceOk I' w' s ins:=by
 rcases h with ⟨rfl,rfl⟩|⟨b,o,c,rfl,h1,h2,h3,h4⟩
 ·exact .inl ⟨rfl,rfl⟩
 ·refine .inr ⟨b,o,c,rfl,h1,fun hlt=>?_,fun i x hi=>hg.1.c _ _ _ (h3 i x hi),fun hlt q hq=>?_⟩
  ·obtain⟨cs,T,e1,e2⟩:=h2 hlt;obtain⟨cs',g1,g2,_⟩:=hf.spare b (o+ins.length) (by simp[spOf,hlt]) cs T e1;exact⟨cs',T,g1,by omega⟩
  ·obtain⟨cs,T,e1,e2⟩:=h2 hlt;rw[hg.2 b q (Array.getElem?_eq_some_iff.1 e1).1];exact h4 hlt q hq
def HSt (I0:Imm) (w0:World) (sp:Option (Nat×Nat)) (n:Nat) (t:Tm) (a:Act) (w:World):Prop:=
 ∃ I,Val I w/\Fr sp w0 w/\Grow w0.heap.size I0 I/\a.defers=[]/\TmOk I [] n t a.tmps
theorem TmOk.bare {I:Imm}{L:List Lay}{n:Nat}{t:Tm}{vs:Array Value} (h:TmOk I L n t vs) (hu:AV.underL 0 (t.map (·.2))=true):TmOk I [] n t vs:=by
 refine⟨h.1,h.2.1,fun q hq=>⟨(h.2.2 q hq).1,(h.2.2 q hq).2.bare ?_ []⟩⟩;exact(Ap 0 _).1 hu q.2 (List.mem_map.2 ⟨q,hq,rfl⟩)
variable {P:Program}
theorem HSt.open_ {I0:Imm}{w0:World}{sp:Option (Nat×Nat)}{n:Nat}{t:Tm}{a:Act}{w:World} (h:HSt I0 w0 sp n t a w):∃ I,Val I w/\Fr sp w0 w/\Grow w0.heap.size I0 I/\StOk w.heap.size ⟨w,I,true⟩ I [] ⟨n,t,[]⟩ a w:=by
 obtain⟨I,h1,h2,h3,h4,h5⟩:=h;exact⟨I,h1,h2,h3,I,[],h1.inv,.refl _ _,by rw[h4];exact .nil,h5⟩
theorem HSt.close {I0:Imm}{w0:World}{sp:Option (Nat×Nat)}{s:St}{a':Act}{w w':World}{I:Imm} (h2:Fr sp w0 w) (h3:Grow w0.heap.size I0 I) (hsp:∀ k o,sp=some (k,o)->k<w0.heap.size)
  (h:StOk w.heap.size ⟨w,I,true⟩ I [] s a' w') (hu:AV.underL 0 (s.t.map (·.2))=true):HSt I0 w0 sp s.n s.t a' w':=by
 have i3:=h.defers rfl;obtain⟨I',L',i1,i2,_,i4⟩:=h;refine⟨I',i1.imm,h2.trans (Fr.ofBelow i1.below fun k o hk=>?_),⟨h3.1.trans i2.imm,fun b o hb=>?_⟩,i3,i4.bare hu⟩
 ·obtain⟨cs,T,hc⟩:=h2.odd k o hk;obtain⟨cs',e,_⟩:=h2.spare k o hk cs T hc;exact⟨cs',T,e⟩
 ·rw[i1.old b o (lt_of_lt_of_le hb h2.size)];exact h3.2 b o hb
theorem HSt.code {cf:CF}{it:It}{mu:List Nat}{m:Cfg} (hcf:CfOk P cf) (hit:ItOk it) (hm:P.follows .mixedOrders=true) {I0:Imm}{w0:World}{sp:Option (Nat×Nat)}{n:Nat}{t:Tm}{a:Act}{w:World}
  (h:HSt I0 w0 sp n t a w) (hsp:∀ k o,sp=some (k,o)->k<w0.heap.size) {c:Code}{e:EX}{s':St} (he:evCode P cf it mu m c ⟨n,t,[]⟩=some (e,s')) (hu:AV.underL 0 (s'.t.map (·.2))=true) {Q:Exit->Act->World->Prop}
  (hQ:∀ a' w',HSt I0 w0 sp s'.n s'.t a' w'->Q (match e with | .norm=>.normal | .exit id=>.exit id | .ret=>.ret) a' w') (hnr:noRF c=true:=by rfl):c.wp P Q a w:=by
 obtain⟨I,h1,h2,h3,h4⟩:=h.open_;refine wp_mono (Jf (fun i n _=>Nat.zero_le _) hcf hit hm c (.inr hnr) he h4) (fun e1 a1 w1 hp=>?_);cases e1 with
 | normal=>
   obtain⟨g1,g2⟩:=hp;subst g1;exact hQ a1 w1 (HSt.close h2 h3 hsp g2 hu)
 | exit id=>
   obtain⟨g1,g2⟩:=hp;subst g1;exact hQ a1 w1 (HSt.close h2 h3 hsp g2 hu)
 | ret=>
   obtain⟨g1,g2⟩:=hp;subst g1;exact hQ a1 w1 (HSt.close h2 h3 hsp g2 hu)
 | goto l=>exact hp.elim
 | panic c=>exact hp.elim
 | outgrown=>exact hp.elim
theorem HSt.one {cf:CF} (hcf:CfOk P cf) {mu:List Nat}{ops:Array Oper}{o:Oper}{I0:Imm}{w0:World}{sp:Option (Nat×Nat)}{n:Nat}{t:Tm}{a:Act}{w:World}{rest:List Oper}
  (h:HSt I0 w0 sp n t a w) (hsp:∀ k o,sp=some (k,o)->k<w0.heap.size) {s':St} (he:evOne P cf mu ops.toList o ⟨n,t,[]⟩=some s') (hu:AV.underL 0 (s'.t.map (·.2))=true) {Q:Exit->Act->World->Prop}
  (hQ:∀ a' w',HSt I0 w0 sp s'.n s'.t a' w'->wpL none P ops Q rest a' w'):wpL none P ops Q (o::rest) a w:=by
 obtain⟨I,h1,h2,h3,h4⟩:=h.open_;have:=CA none (Q:=Q) (K:=wpL none P ops Q rest) hcf he h4 (fun a' w' hs'=>hQ a' w' (HSt.close h2 h3 hsp hs' hu));unfold wpL;split
 ·rename_i hw;rw[if_pos hw]at this;exact this
 ·rename_i hw;rw[if_neg hw]at this;exact this
theorem append1 {sT xT ty e:TypeId}{by_:Nat}{ze:AV} (he:tyElem P sT=some e) (hxT:tyNotInt P xT=true) (hk:tySz P e=some 1) (hby:tyBytes P e=some by_) (hze:tyZero P e=some ze) (hzl:ze.cells.length=1)
  {I:Imm}{w:World}{s vx:Value}{ins:List Int}{n:Int} (hv:Val I w) (hs:SliceOk I w s ins) {tt:Bool} (hx:Rep I [] (.sl tt [.int .i64 n]) vx) (hroom:roomFor (ins.length+1) by_=true) :
  ∃ u w1 I1,(Builtin.append_ #[sT,xT] ty #[s,vx]).run P w=.ok u w1/\Val I1 w1/\SliceOk I1 w1 u (ins++[n])/\Fr (spOf s) w w1/\Grows I I1/\SpLe w.heap.size (spOf s) (spOf u):=by
 have hi:=hv.inv;have hyk:∀ y∈[AV.int .i64 n],y.cells.length=1:=fun y hy=>by rw[List.mem_singleton.1 hy];rfl
 obtain⟨new,n1,n2,n3⟩:=CO (P:=P) hi hx (ys:=[.int .i64 n]) rfl hyk;obtain⟨newd,d1,d2,d3⟩:=CO (P:=P) hi.drew hx (ys:=[.int .i64 n]) rfl hyk;have one:∀ {arr:Array Value},RowRep I [] 1 [.int .i64 n] arr->arr = #[.int .i64 n]:=by
  intro arr h;obtain⟨v,e1,e2,e3⟩:=h.some (i:=0) (j:=0) (x:=.int .i64 n) (y:=.int .i64 n) rfl rfl;have hsz:arr.size=1:=by simpa using h.1
  cases e3;apply Array.ext
  ·simpa using hsz
  ·intro i h1 h2;have:i=0:=by simp at h2;omega
   subst this;have:=(Array.getElem?_eq_some_iff.1 e1).2
   simpa using this
 have e1:=one n3;have e2:=one d3;subst e1;subst e2;have hss:∃ base len cap,s=.slice base len cap/\len=ins.length:=by
  rcases hs with ⟨rfl,rfl⟩|⟨b,o,c,rfl,_⟩
  ·exact⟨_,_,_,rfl,rfl⟩
  ·exact⟨_,_,_,rfl,rfl⟩
 obtain⟨base,len,cap,rfl,rfl⟩:=hss;obtain⟨r1,r2⟩:=Er (P:=P) (w:=w) (ty:=ty) (new:=#[.int .i64 n]) (base:=base) (sLen:=ins.length) (sCap:=cap) he hxT hk hby hze hzl rfl n1;by_cases hc:ins.length+1<=cap
 ·rcases hs with ⟨h,_⟩|⟨b,o,c,h,h1,h2,h3,h4⟩
  ·simp at h;omega
  ·simp at h;obtain⟨rfl,rfl⟩:=h;have hlt:ins.length<cap:=by omega
   obtain⟨cs,T,f1,f2⟩:=h2 hlt;have hadd:(⟨b,o,none⟩:Addr).add (ins.length*1)=⟨b,o+ins.length*1,none⟩:=Addr.add_lit _ _ _;have hst:=run_storeCells_at (P:=P) b (o+ins.length) T [.int .i64 n] 0 cs w f1 (by simp;omega) (by simp[Value.oneCell']);generalize hcs':(cs.toList.take (o+ins.length+0)++[Value.int .i64 n]++cs.toList.drop (o+ins.length+0 + [Value.int .i64 n].length)).toArray=cs' at hst;have hsz:cs'.size=cs.size:=by
    rw[<- hcs'];simp;omega
   have hget:∀ q,cs'[q]?=if q=o+ins.length then some (.int .i64 n) else cs[q]?:=by
    intro q;rw[<- hcs'];simp only[List.getElem?_toArray,Nat.add_zero,List.length_singleton];have hl1:(cs.toList.take (o+ins.length)).length=o+ins.length:=by simp;omega
    by_cases g1:q<o+ins.length
    ·rw[List.append_assoc,List.getElem?_append_left (by rw[hl1];exact g1),List.getElem?_take,if_pos g1,if_neg (by omega)];simp
    ·rw[List.append_assoc,List.getElem?_append_right (by rw[hl1];omega),hl1];by_cases g2:q=o+ins.length
     ·subst g2;simp
     ·rw[if_neg g2,List.getElem?_append_right (by simp;omega),List.getElem?_drop];simp only[List.length_singleton];rw[<- Array.getElem?_toList];congr 1;omega
   have ha:=r1 hc n2;have hfr:Fr (spOf (.slice (some ⟨b,o,none⟩) ins.length cap)) w (w.setRow b cs'):=by
    have hsp:spOf (.slice (some ⟨b,o,none⟩) ins.length cap)=some (b,o+ins.length):=by simp[spOf,hlt]
    rw[hsp];refine⟨rfl,rfl,rfl,by simp,fun k hk hn=>?_,fun k o' hk cs0 T0 hc0=>?_,fun k o' hk=>?_,le_refl _⟩
    ·exact setRow_other w b k cs' (fun e=>hn (o+ins.length) (by rw[e]))
    ·simp at hk;obtain⟨rfl,rfl⟩:=hk;rw[f1]at hc0;simp at hc0;obtain⟨rfl,rfl⟩:=hc0;exact⟨cs',setRow_heap w b cs cs' T _ f1,hsz,fun c hc=>by rw[hget,if_neg (by omega)]⟩
    ·simp at hk;obtain⟨rfl,rfl⟩:=hk;exact⟨cs,T,f1⟩
   have hsp:spOf (.slice (some ⟨b,o,none⟩) ins.length cap)=some (b,o+ins.length):=by simp[spOf,hlt]
   have hfree:ImmFree (spOf (.slice (some ⟨b,o,none⟩) ins.length cap)) I:=by
    rw[hsp];intro k o' hk q hq;simp at hk;obtain⟨rfl,rfl⟩:=hk;exact h4 hlt q hq
   have hval:=hfr.val hfree hv;have hb1:=setRow_heap w b cs cs' T _ f1;refine⟨.slice (some ⟨b,o,none⟩) (ins.length+1) cap,w.setRow b cs',⟨fun b' o'=>if b' = b/\o' = o+ins.length then some (.int .i64 n) else I b' o',I.g⟩,?_,?_,?_,hfr,?_,?_⟩
   ·rw[ha];simp only[hadd];rw[Nat.mul_one,hst];simp[Result.andThen_ok]
   ·refine⟨fun b' o' v h=>?_,hval.g⟩
    dsimp only at h
    split at h
    ·rename_i he;obtain⟨rfl,rfl⟩:=he;rw[World.cell_of_heap hb1,hget,if_pos rfl];exact h
    ·exact hval.c b' o' v h
   ·refine .inr ⟨b,o,cap,by simp,by simpa using hc,fun _=>⟨cs',T,hb1,by omega⟩,fun i x hi=>?_,fun hl q hq=>?_⟩<;>(try dsimp only)
    ·by_cases g:i<ins.length
     ·rw[List.getElem?_append_left g]at hi;rw[if_neg (by omega)];exact h3 i x hi
     ·rw[List.getElem?_append_right (by omega)]at hi;have hi0:i=ins.length:=by
       have:=(List.getElem?_eq_some_iff.1 hi).1;simp at this;omega
      subst hi0;simp at hi;subst hi;rw[if_pos ⟨rfl,rfl⟩]
    ·rw[if_neg (by simp at hq;omega)];simp at hq;exact h4 hlt q (by omega)
   ·refine⟨fun b' o' v h=>?_,fun _ h=>h⟩;show (if _ then _ else _)=_;rw[if_neg]
    ·exact h
    ·rintro⟨rfl,rfl⟩;rw[h4 hlt _ (le_refl _)]at h;cases h
   ·intro k o1 hk _;rw[hsp];simp only[spOf]at hk;split at hk
    ·simp at hk;obtain⟨rfl,rfl⟩:=hk;exact⟨_,rfl,by omega⟩
    ·cases hk
 ·obtain⟨old,o1,o2,o3⟩:=CO (P:=P) hi.drew (hs.rep (L:=[])) (ys:=ins.map fun n=>AV.int .i64 n) rfl (k:=1) (fun y hy=>by obtain⟨n,_,rfl⟩:=List.mem_map.1 hy;rfl);rw[List.length_map]at o2;obtain⟨cap',spare,p1,p2,p3⟩:=r2 (by simp only[List.length_singleton];omega) hroom old o2 d2;have holdsz:old.size=ins.length:=by simpa using o3.1
  have hold:∀(i:Nat) (x:Int),ins[i]?=some x->old[i]?=some (Value.int .i64 x):=by
   intro i x hi;obtain⟨v,e1,e2,e3⟩:=o3.some (i:=i) (j:=0) (x:=.int .i64 x) (y:=.int .i64 x) (by rw[List.getElem?_map,hi];rfl) rfl;cases e3
   simpa using e1
  have hgetc:∀(i:Nat) (x:Int),(ins++[n])[i]?=some x->(old++#[Value.int .i64 n]++spare)[i]?=some (Value.int .i64 x):=by
   intro i x hi;have hil:i<ins.length+1:=by
    have:=(List.getElem?_eq_some_iff.1 hi).1
    simpa using this
   rw[Array.getElem?_append_left (by simp;omega)];by_cases g:i<ins.length
   ·rw[List.getElem?_append_left g]at hi;rw[Array.getElem?_append_left (by omega)];exact hold i x hi
   ·have:i=ins.length:=by omega
    subst this;rw[List.getElem?_append_right (le_refl _)]at hi;simp at hi;subst hi;rw[Array.getElem?_append_right (by omega)];simp[holdsz]
  have hal:(w.drew.alloc (.cells (old++#[Value.int .i64 n]++spare) e)).heap[w.heap.size]?=some (.cells (old++#[Value.int .i64 n]++spare) e):=(MapKept.heap_alloc w.drew _).1;have hfr:Fr (spOf (.slice base ins.length cap)) w (w.drew.alloc (.cells (old++#[Value.int .i64 n]++spare) e)):=
   Fr.ofBelow ((BelowD.refl w.heap.size w).drew.alloc (le_refl _) _) hs.has
  have hval:=hfr.val hs.free hv;refine⟨_,_,⟨fun b' o'=>if b' = w.heap.size then(if o'<ins.length+1 then(old++#[Value.int .i64 n]++spare)[o']? else none) else I b' o',I.g⟩,p3,?_,?_,hfr,?_,?_⟩
  ·refine⟨fun b' o' v h=>?_,hval.g⟩
   dsimp only at h
   split at h
   ·rename_i hb;subst hb;split at h
    ·rw[World.cell_of_heap hal];exact h
    ·cases h
   ·exact hval.c b' o' v h
  ·refine .inr ⟨w.heap.size,0,cap',by simp,by simpa using p1,fun _=>⟨_,_,hal,?_⟩,fun i x hi=>?_,fun hl q hq=>?_⟩<;>(try dsimp only)
   ·simp only[Array.size_append,holdsz,p2];simp;omega
   ·have hil:i<ins.length+1:=by
     have:=(List.getElem?_eq_some_iff.1 hi).1
     simpa using this
    rw[if_pos rfl,Nat.zero_add,if_pos hil];exact hgetc i x hi
   ·simp at hq;rw[if_pos rfl,if_neg (by omega)]
  ·refine⟨fun b' o' v h=>?_,fun _ h=>h⟩;show (if _ then _ else _)=_;rw[if_neg]
   ·exact h
   ·rintro rfl;rw[hi.imm_new]at h;cases h
  ·intro k o1 hk hlt;simp only[spOf]at hk;split at hk
   ·simp at hk;obtain⟨rfl,rfl⟩:=hk;omega
   ·cases hk
def exOf:EX->Exit
 | .norm=>.normal
 | .exit id=>.exit id
 | .ret=>.ret
theorem HSt.W {cf:CF}{it:It}{mu:List Nat}{m:Cfg} (hcf:CfOk P cf) (hit:ItOk it) (hm:P.follows .mixedOrders=true) {I0:Imm}{w0:World}{sp:Option (Nat×Nat)}{n:Nat}{t:Tm}{a:Act}{w:World}
  (h:HSt I0 w0 sp n t a w) (hsp:∀ k o,sp=some (k,o)->k<w0.heap.size) {c:Code}{Q:Exit->Act->World->Prop}
  (hw:Go.Ev.W P cf it mu m c ⟨n,t,[]⟩ (fun e s'=>AV.underL 0 (s'.t.map (·.2))=true/\∀ a' w',HSt I0 w0 sp s'.n s'.t a' w'->Q (exOf e) a' w') .mk) (hnr:noRF c=true:=by rfl):c.wp P Q a w:=by
 obtain⟨⟨e,s'⟩,h1,h2,h3⟩:=hw;refine h.code hcf hit hm hsp h1 h2 (fun a' w' h=>?_) hnr;have:=h3 a' w' h;cases e<;>exact this
theorem HO {cf:CF} (hcf:CfOk P cf) {mu:List Nat}{ops:Array Oper}{Q:Exit->Act->World->Prop}{rest:List Oper}{B0:Nat}{w0:Base}{I0:Imm}{L0:List Lay}:∀(l:List Oper) {s s':St}{a:Act}{w:World},evOps P cf mu ops.toList l s=some s'->StOk B0 w0 I0 L0 s a w ->
  (∀ a' w',StOk B0 w0 I0 L0 s' a' w'->wpL none P ops Q rest a' w')->wpL none P ops Q (l++rest) a w
 | [],s,s',a,w,h,hs,hQ=>by
   simp[evOps]at h;subst h;exact hQ a w hs
 | o::l,s,s',a,w,h,hs,hQ=>by
   simp only[evOps]at h;split at h
   ·rename_i s1 h1;have:=CA none (Q:=Q) (K:=wpL none P ops Q (l++rest)) hcf h1 hs (fun a' w' hs'=>HO hcf l h hs' hQ);rw[List.cons_append];unfold wpL;split
    ·rename_i hw;rw[if_pos hw]at this;exact this
    ·rename_i hw;rw[if_neg hw]at this;exact this
   ·simp at h
theorem HSt.ops {cf:CF} (hcf:CfOk P cf) {mu:List Nat}{ops:Array Oper}{I0:Imm}{w0:World}{sp:Option (Nat×Nat)}{n:Nat}{t:Tm}{a:Act}{w:World}
  (h:HSt I0 w0 sp n t a w) (hsp:∀ k o,sp=some (k,o)->k<w0.heap.size) {Q:Exit->Act->World->Prop} (k:Nat) {l:List Oper}
  (hw:WO P cf mu ops.toList (l.take k) ⟨n,t,[]⟩ (fun s'=>AV.underL 0 (s'.t.map (·.2))=true/\∀ a' w',HSt I0 w0 sp s'.n s'.t a' w'->wpL none P ops Q (l.drop k) a' w') .mk):wpL none P ops Q l a w:=by
 obtain⟨s',h1,h2,h3⟩:=hw;obtain⟨I,g1,g2,g3,g4⟩:=h.open_;rw[<- List.take_append_drop k l];exact HO hcf _ h1 g4 (fun a' w' hs'=>h3 a' w' (HSt.close g2 g3 hsp hs' h2))
theorem HSt.cond {I0:Imm}{w0:World}{sp:Option (Nat×Nat)}{n:Nat}{t:Tm}{a:Act}{w:World} (h:HSt I0 w0 sp n t a w) {d:Nat}{b:Bool} (hl:look t d=some (.bool b)) {x y:Code}{Q:Exit->Act->World->Prop}
  (hx:if b=true then x.wp P Q a w else y.wp P Q a w):(Code.cond (.tmp d) x y).wp P Q a w:=by
 obtain⟨I,h1,h2,h3,h4,h5⟩:=h;have hr:Rep I [] (.bool b) (a.eval (.tmp d)):=h5.at hl;generalize hv:a.eval (.tmp d)=v at hr;cases hr;cases b with
 | true=>exact wp_cond_true hv hx
 | false=>exact wp_cond_false hv hx
def pinOf:Value->AV
 | .slice none l c=>.psl none l c
 | .slice (some a) l c=>.psl (some (a.block,a.off)) l c
 | _=>.top
theorem SliceOk.pin {I:Imm}{w:World}{s:Value}{ins:List Int}{J:Imm}{L:List Lay} (h:SliceOk I w s ins):Rep J L (pinOf s) s/\AV.under 0 (pinOf s)=true/\∀ v,Rep J L (pinOf s) v->v=s:=by
 rcases h with ⟨rfl,rfl⟩|⟨b,o,c,rfl,_⟩
 ·refine⟨.psn 0 0,rfl,fun v hv=>?_⟩;cases hv;rfl
 ·refine⟨.pss b o _ c,rfl,fun v hv=>?_⟩;cases hv;rfl
theorem HSt.seen {I0:Imm}{w0:World}{s:Value}{n:Nat}{t:Tm}{a:Act}{w:World} (h:HSt I0 w0 (spOf s) n t a w) {ins:List Int} (hs:SliceOk I0 w0 s ins) {d:Nat} (hl:look t d=some (pinOf s)) :
  HSt I0 w0 (spOf s) n (updT d (.sl false (ins.map fun n=>AV.int .i64 n)) t) a w:=by
 obtain⟨I,h1,h2,h3,h4,h5⟩:=h;refine⟨I,h1,h2,h3,h4,h5.upd ?_⟩;have h6:=(hs.pin (J:=I) (L:=[])).2.2 _ (h5.at hl);rw[h6];exact(hs.later h2 h3).rep
theorem HSt.init {I:Imm}{w:World}{sp:Option (Nat×Nat)}{args:List AV}{vs:Array Value}{m:Nat} (hv:Val I w) (hs:SpHas sp w) (hr:RepL I [] args vs) :
  HSt I w sp (args.length+(m-args.length)) (initT 0 args []) { tmps:=vs++Array.replicate (m-vs.size) undef,defers:=[] } w:=by
 have hsz:vs.size=args.length:=hr.1;refine⟨I,hv,.refl hs,⟨.refl _,fun _ _ _=>rfl⟩,rfl,?_⟩;refine HD args 0 [] (fun i y hy=>?_) (fun q hq=>by cases hq) ⟨by simp[hsz],List.Pairwise.nil,fun q hq=>by cases hq⟩;have hlt:=(List.getElem?_eq_some_iff.1 hy).1;refine⟨by show 0+i<args.length+(m-args.length);omega,?_⟩;have e1:(vs++Array.replicate (m-vs.size) undef).getD (0+i) undef=vs.getD i undef:=by
  have hlt2:i<vs.size:=by omega
  rw[Nat.zero_add];simp only[Array.getD_eq_getD_getElem?,Array.getElem?_append_left hlt2]
 rw[e1];exact hr.2 i y hy
theorem Hh {f:Nat}{fn:Func}{c:Code} (hf:P.funcs[f]?=some fn) (hc:fn.body=some c) (hn:(fn.name == "runtime.NumGoroutine")=false) (vs:Array Value) (w:World):(callFunc f vs).run P w=.ok (.enter f vs) w:=by
 unfold callFunc;simp only[Sem.run_bind,run_program,Result.andThen_ok,hf];rw[if_neg (by simpa using hn),if_neg (by simp[hc])];rfl
theorem HSt.callB {ops:Array Oper}{Q:Exit->Act->World->Prop}{rest:List Oper}{f d:Nat}{args:Array Operand} {ats ty pos after}{I0:Imm}{w0:World}{s:Value}{nums:List Int}{n:Nat}{t:Tm}{a:Act}{w:World}
  (h:HSt I0 w0 (spOf s) n t a w) (hs:SliceOk I0 w0 s nums) (hen:∀ vs w,(callFunc f vs).run P w=.ok (.enter f vs) w) {l:List AV} (hl:args.toList.map (St.ev ⟨n,t,[]⟩)=l) {b:Bool}
  (hc:∀ I w vs,Val I w->SliceOk I w s nums->RepL I [] l vs->Calls P f vs w (fun e w'=>e=.returned (.bool b)/\Fr (spOf s) w w'))
  (hQ:∀ a' w',HSt I0 w0 (spOf s) n (if d<n then Go.Ev.ins d (.bool b) t else t) a' w'->wpL none P ops Q rest a' w'):wpL none P ops Q (⟨some d,.call ⟨.value (.func f),args,ats⟩,ty,pos,after,none⟩::rest) a w:=by
 obtain⟨I,h1,h2,h3,h4,h5⟩:=h;obtain⟨vs,e1,e2⟩:=D6 (P:=P) (I:=I) (L:=[]) (ρ:=St.ev ⟨n,t,[]⟩) (ρc:=a.eval) (fun x=>Ej h5 x) (f:=.func f) (g:=f) (cs:=[]) rfl args ty ats hen w;refine D8 rfl ?_;refine⟨CY,?_⟩;rw[Oper.semAt_eq _ _ _ (fun c h=>by cases h)];show Oper.uponIn (wd none) 0 P _ a _ _ ((execOp a.eval _).run P w);simp only[execOp];rw[e1];refine⟨Gc,Es ?_⟩;refine(hc I w vs h1 (hs.later h2 h3) (by rw[<- hl];simpa using e2)).mono ?_;rintro e w' ⟨rfl,hf⟩;refine hQ _ _ ⟨I,hf.val (hs.later h2 h3).free h1,h2.trans hf,h3,by rw[put_defers];exact h4,?_⟩;exact Co (s:=⟨n,t,[]⟩) h5 (some d) (.bool b) []
theorem HSt.pinned {I0:Imm}{w0:World}{s:Value}{n:Nat}{t:Tm}{a:Act}{w:World}{nums:List Int} (h:HSt I0 w0 (spOf s) n t a w) (hs:SliceOk I0 w0 s nums) {x:Nat} (hx:look t x=some (pinOf s)):a.eval (.tmp x)=s:=by
 obtain⟨I,h1,h2,h3,h4,h5⟩:=h;exact(hs.pin (J:=I) (L:=[])).2.2 _ (h5.at hx)
theorem HSt.append1 {ops:Array Oper}{Q:Exit->Act->World->Prop}{rest:List Oper}{d x y:Nat} {ty pos after}{I0:Imm}{w0:World}{s:Value}{nums:List Int}{m:Int}{n:Nat}{t:Tm}{a:Act}{w:World}{tt:Bool}
  {sT xT e:TypeId}{by_:Nat}{ze:AV} (he:tyElem P sT=some e) (hxT:tyNotInt P xT=true) (hk:tySz P e=some 1) (hby:tyBytes P e=some by_) (hze:tyZero P e=some ze) (hzl:ze.cells.length=1)
  (h:HSt I0 w0 (spOf s) n t a w) (hs:SliceOk I0 w0 s nums) (hx:look t x=some (pinOf s)) (hy:look t y=some (.sl tt [.int .i64 m])) (hroom:roomFor (nums.length+1) by_=true)
  (hQ:∀ I1 w1 u a',SliceOk I1 w1 u (nums++[m])->Fr (spOf s) w0 w1->SpLe w0.heap.size (spOf s) (spOf u)->Grows I0 I1 ->
    HSt I1 w1 (spOf u) n (if d<n then Go.Ev.ins d (pinOf u) t else t) a' w1->wpL none P ops Q rest a' w1) :
  wpL none P ops Q (⟨some d,.call ⟨.builtin .append,#[.tmp x,.tmp y],#[sT,xT]⟩,ty,pos,after,none⟩::rest) a w:=by
 have hxs:=h.pinned hs hx;obtain⟨I,h1,h2,h3,h4,h5⟩:=h;have hs':=hs.later h2 h3;have hyr:Rep I [] (.sl tt [.int .i64 m]) (a.eval (.tmp y)):=h5.at hy;obtain⟨u,w1,I1,r1,r2,r3,r4,r5,r6⟩:=_root_.Go.Ev.append1 (P:=P) (ty:=ty) he hxT hk hby hze hzl h1 hs' hyr hroom;refine D8 rfl ?_;refine⟨CY,?_⟩;rw[Oper.semAt_eq _ _ _ (fun c h=>by cases h)];show Oper.uponIn (wd none) 0 P _ a _ _ ((execOp a.eval _).run P w);have hrun:(execOp a.eval (⟨some d,.call ⟨.builtin .append,#[.tmp x,.tmp y],#[sT,xT]⟩,ty,pos,after,none⟩:Oper)).run P w=.ok (.value u) w1:=by
  simp only[execOp,resolve,Sem.run_bind,Sem.run_pure,Result.andThen_ok,invoke];rw[show (#[Operand.tmp x,.tmp y]:Array Operand).map a.eval = #[a.eval (.tmp x),a.eval (.tmp y)] by simp,hxs];show (do pure (.value (<- Builtin.append_ #[sT,xT] ty #[s,a.eval (.tmp y)])):Sem Next).run P w=_;simp only[Sem.run_bind,r1,Result.andThen_ok,Sem.run_pure]
 rw[hrun];show wpL none P ops Q rest (a.put (some d) u) w1;have hg:Grows I0 I1:=h3.1.trans r5;refine hQ I1 w1 u _ r3 (h2.trans r4) (fun k o1 g1 g2=>r6 k o1 g1 (lt_of_lt_of_le g2 h2.size)) hg ⟨I1,r2,.refl r3.has,⟨.refl _,fun _ _ _=>rfl⟩,by rw[put_defers];exact h4,?_⟩;exact Co (s:=⟨n,t,[]⟩) (h5.mono ⟨r5,(Ext.refl I []).lay⟩) (some d) (r3.pin (J:=I1) (L:=[])).1 []
theorem HSt.done {I0:Imm}{w0:World}{sp:Option (Nat×Nat)}{n:Nat}{t:Tm}{a:Act}{w:World} (h:HSt I0 w0 sp n t a w) {d:Nat}{b:Bool} (hl:look t d=some (.bool b)) :
  Fr sp w0 w/\a.defers=[]/\a.tmps.getD d undef=.bool b:=by
 obtain⟨I,h1,h2,h3,h4,h5⟩:=h;refine⟨h2,h4,?_⟩;have hr:Rep I [] (.bool b) (a.tmps.getD d undef):=h5.at hl;generalize a.tmps.getD d undef=v at hr;cases hr;rfl
theorem KF {fn:Func}{d:Nat} (h:fn.results = #[.tmp d]) (tmps:Array Value) (w:World):(results fn tmps).run P w=.ok (tmps.getD d undef) w:=by
 unfold results;rw[h];simp
theorem HSt.sub {I0:Imm}{w0:World}{sp:Option (Nat×Nat)}{n:Nat}{t t':Tm}{a:Act}{w:World} (h:HSt I0 w0 sp n t a w) (hs:t'.Sublist t):HSt I0 w0 sp n t' a w:=by
 obtain⟨I,h1,h2,h3,h4,h5⟩:=h;exact⟨I,h1,h2,h3,h4,h5.sub hs⟩
theorem Hr {c:Code}{Q:Exit->Act->World->Prop} (J:Nat->Act->World->Prop) (N:Nat) (step:∀ i a w,i<N->J i a w->c.wp P (Exit.then (fun a w=>J (i+1) a w) Q) a w)
  (fin:∀ a w,J N a w->c.wp P (Exit.then (fun _ _=>False) Q) a w) {a:Act}{w:World} (h:J 0 a w):(Code.loop c).wp P Q a w:=by
 refine wp_loop_rounds (N+1) ?_;have round:∀(m i:Nat) (a:Act) (w:World),i+m=N->J i a w->Code.rounds P c Q (m+1) a w:=by
  intro m
  induction m with
  | zero=>
    intro i a w hi h;rw[rounds_succ];obtain rfl:i=N:=by omega
    refine wp_mono (fin a w h) (fun e a1 w1 hp=>?_);cases e<;>first|exact hp|exact hp.elim
  | succ m ih=>
    intro i a w hi h;rw[rounds_succ];refine wp_mono (step i a w (by omega) h) (fun e a1 w1 hp=>?_);cases e<;>first|exact hp|exact ih (i+1) a1 w1 (by omega) hp
 exact round N 0 a w (by omega) h
end Go.Ev
