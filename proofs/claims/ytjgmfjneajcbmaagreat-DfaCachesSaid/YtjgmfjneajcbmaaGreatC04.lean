/- A function's frame; one operation in it; a list of operations. -/
import Derived.Test.YtjgmfjneajcbmaaGreatC03
set_option linter.unusedVariables false
set_option linter.unusedSimpArgs false
namespace Go.Ev
open Go.RowKit
variable {P:Program} {B0:Nat} {w0:Base} {w:World} {I0:Imm} {L0:List Lay}
theorem look_mem:∀ {t:Tm} {d:Nat} {v:AV},look t d=some v→(d,v)∈t
 | (k,u)::t,d,v,h=>by
   simp only[look]at h
   split at h
   ·rename_i e
    simp at h;subst h;subst e
    exact List.mem_cons_self
   ·exact List.mem_cons_of_mem _ (look_mem h)
abbrev Desc (t:Tm):Prop:=t.Pairwise fun a b=>b.1 < a.1
theorem ins_mem {d:Nat} {v:AV}:∀ {t:Tm} {q:Nat×AV},q∈ins d v t→q=(d,v)∨(q∈t∧q≠(d,v))
 | [],q,h=>by simp[ins]at h;exact .inl h
 | (k,u)::t,q,h=>by
   by_cases e:q=(d,v)
   ·exact .inl e
   ·refine .inr ⟨?_,e⟩
    simp only[ins]at h
    split at h
    ·rcases List.mem_cons.1 h with h|h
     ·exact absurd h e
     ·exact List.mem_cons_of_mem _ h
    ·split at h
     ·rcases List.mem_cons.1 h with h|h
      ·exact absurd h e
      ·exact h
     ·rcases List.mem_cons.1 h with h|h
      ·rw[h];exact List.mem_cons_self
      ·rcases ins_mem h with h|h
       ·exact absurd h e
       ·exact List.mem_cons_of_mem _ h.1
theorem ins_key {d:Nat} {v:AV} {t:Tm} {q:Nat×AV} (h:q∈ins d v t):q.1=d∨q∈t:=by
 rcases ins_mem h with rfl|h
 ·exact .inl rfl
 ·exact .inr h.1
theorem ins_sorted (d:Nat) (v:AV):∀ t:Tm,Desc t→Desc (ins d v t)
 | [],_=>by simp[ins]
 | (k,u)::t,h=>by
   obtain⟨h1,h2⟩:=List.pairwise_cons.1 h
   simp only[ins]
   split
   ·rename_i e
    subst e
    exact List.pairwise_cons.2 ⟨h1,h2⟩
   ·split
    ·rename_i e
     refine List.pairwise_cons.2 ⟨fun q hq=>?_,h⟩
     rcases List.mem_cons.1 hq with rfl|hq
     ·exact e
     ·have:=h1 q hq
      simp only[]at this ⊢;omega
    ·rename_i e1 e2
     refine List.pairwise_cons.2 ⟨fun q hq=>?_,ins_sorted d v t h2⟩
     rcases ins_key hq with hq|hq
     ·simp only[hq];omega
     ·exact h1 q hq
theorem ins_in (d:Nat) (v:AV):∀ t:Tm,(d,v)∈ins d v t
 | []=>by simp[ins]
 | (k,u)::t=>by
   simp only[ins]
   split
   ·exact List.mem_cons_self
   ·split
    ·exact List.mem_cons_self
    ·exact List.mem_cons_of_mem _ (ins_in d v t)
theorem desc_key {t:Tm} (h:Desc t) {p q:Nat×AV} (hp:p∈t) (hq:q∈t) (e:p.1=q.1):p=q:=by
 induction t with
 | nil=>cases hp
 | cons a t ih=>
   obtain⟨h1,h2⟩:=List.pairwise_cons.1 h
   rcases List.mem_cons.1 hp with hp1|hp1<;>rcases List.mem_cons.1 hq with hq1|hq1
   ·rw[hp1,hq1]
   ·have:=h1 q hq1;rw[hp1]at e;omega
   ·have:=h1 p hp1;rw[hq1]at e;omega
   ·exact ih h2 hp1 hq1
theorem ins_ne {d:Nat} {v:AV} {t:Tm} (h:Desc t) {q:Nat×AV} (hq:q∈ins d v t) (hne:q≠(d,v)):d≠q.1:=fun e=>
 hne (desc_key (ins_sorted d v t h) hq (ins_in d v t) e.symm)
theorem look_ins_ne {d e:Nat} {v:AV} (hne:d≠e):∀ t:Tm,look (ins d v t) e=look t e
 | []=>by simp[ins,look,hne]
 | (k,u)::t=>by
   simp only[ins]
   split
   ·rename_i h;subst h;simp[look,hne]
   ·split
    ·simp[look,hne]
    ·simp only[look,look_ins_ne hne t]
theorem ins_comm {d e:Nat} {v u:AV} (hne:d≠e):∀ t:Tm,ins d v (ins e u t)=ins e u (ins d v t)
 | []=>by
   simp only[ins]
   repeat' split
   all_goals first|rfl|omega
 | (k,x)::t=>by
   have ih:=ins_comm (v:=v) (u:=u) hne t
   rcases Nat.lt_trichotomy k d with h1|h1|h1<;>rcases Nat.lt_trichotomy k e with h2|h2|h2<;>rcases Nat.lt_trichotomy d e with h3|h3|h3
   all_goals first
    | omega
    | (subst h1;simp[ins,Nat.ne_of_gt,Nat.ne_of_lt,Nat.not_lt_of_lt, *];done)
    | (subst h2;simp[ins,Nat.ne_of_gt,Nat.ne_of_lt,Nat.not_lt_of_lt, *];done)
    | (have a1:k≠d:=by omega
       have a2:k≠e:=by omega
       have a3:d≠e:=by omega
       have a4:e≠d:=by omega
       simp[ins,a1,a2,a3,a4,h1,h2,h3,Nat.not_lt_of_lt h1,Nat.not_lt_of_lt h2,Nat.not_lt_of_lt h3,ih])
def TmOk (I:Imm) (L:List Lay) (n:Nat) (t:Tm) (vs:Array Value):Prop:=
 vs.size=n∧Desc t∧∀ q∈t,q.1 < n∧Rep I L q.2 (vs.getD q.1 undef)
theorem TmOk.at {I:Imm} {L:List Lay} {n:Nat} {t:Tm} {vs:Array Value} (h:TmOk I L n t vs) {d:Nat} {v:AV} (hl:look t d=some v):Rep I L v (vs.getD d undef):=
 (h.2.2 _ (look_mem hl)).2
theorem TmOk.mono {I:Imm} {L:List Lay} {I':Imm} {L':List Lay} (hx:Ext I L I' L') {n:Nat} {t:Tm} {vs:Array Value} (h:TmOk I L n t vs):TmOk I' L' n t vs:=
 ⟨h.1,h.2.1,fun q hq=>⟨(h.2.2 q hq).1,(h.2.2 q hq).2.mono hx⟩⟩
theorem TmOk.sub {I:Imm} {L:List Lay} {n:Nat} {t t':Tm} {vs:Array Value} (h:TmOk I L n t vs) (hs:t'.Sublist t):TmOk I L n t' vs:=
 ⟨h.1,h.2.1.sublist hs,fun q hq=>h.2.2 q (hs.subset hq)⟩
theorem rem1_sub (d:Nat):∀ t:Tm,(rem1 d t).Sublist t
 | []=>.slnil
 | (k,v)::t=>by
   simp only[rem1]
   split
   ·exact List.sublist_cons_self _ _
   ·exact(rem1_sub d t).cons_cons _
theorem dropT_sub:∀(l:List Nat) (t:Tm),(dropT l t).Sublist t
 | [],t=>List.Sublist.refl t
 | d::l,t=>(dropT_sub l _).trans (rem1_sub d t)
theorem keepT_sub (l:Option (List Nat)) (t:Tm):(keepT l t).Sublist t:=by
 cases l with
 | none=>exact List.Sublist.refl t
 | some l=>exact List.filter_sublist
theorem initT_ok {I:Imm} {L:List Lay} {vs:Array Value} {n:Nat}:∀(as:List AV) (i:Nat) (acc:Tm),(∀ j y,as[j]?=some y→i+j < n∧Rep I L y (vs.getD (i+j) undef)) →
  (∀ q∈acc,q.1 < i)→TmOk I L n acc vs→TmOk I L n (initT i as acc) vs
 | [],i,acc,_,_,h=>h
 | a::as,i,acc,h1,h2,h=>by
   refine initT_ok as (i+1) ((i,a)::acc) (fun j y hy=>?_) (fun q hq=>?_) ⟨h.1,List.pairwise_cons.2 ⟨fun q hq=>h2 q hq,h.2.1⟩,fun q hq=>?_⟩
   ·have:=h1 (j+1) y (by simpa using hy)
    rwa [show i+(j+1)=i+1+j by omega]at this
   ·rcases List.mem_cons.1 hq with rfl|hq
    ·show i < i+1;omega
    ·have:=h2 q hq;omega
   ·rcases List.mem_cons.1 hq with rfl|hq
    ·simpa using h1 0 a rfl
    ·exact h.2.2 q hq
def StOk (B0:Nat) (w0:Base) (I0:Imm) (L0:List Lay) (s:St) (a:Act) (w:World):Prop:=
 ∃ I L,Inv B0 w0 I s.h L w∧Ext I0 L0 I L∧a.defers=[]∧TmOk I L s.n s.t a.tmps
theorem StOk.drew {s:St} {a:Act} (h:StOk B0 w0 I0 L0 s a w):StOk B0 w0 I0 L0 s a w.drew:=by
 obtain⟨I,L,h1,h2⟩:=h
 exact⟨I,L,h1.drew,h2⟩
theorem rep_ofK {I:Imm} {L:List Lay} (v:Value):Rep I L (ofK v) v:=by
 cases v with
 | agg cs=>
   show Rep I L (if cs.toList.all Value.oneCell' = true then .agg (cs.toList.map ofC) else .top) _
   split
   ·rename_i h
    have hs:∀ i,i < cs.size→scal (cs.getD i undef)=true:=fun i hi=>by
     have hi':i < cs.toList.length:=by simpa using hi
     have:=List.all_eq_true.1 h (cs.toList[i]) (List.getElem_mem hi')
     have e:cs.getD i undef=cs.toList[i]:=by simp[Array.getD_eq_getD_getElem?,hi]
     rw[e];exact this
    refine .agg _ cs (by simp) hs (fun i y hy=>?_)
    simp only[List.getElem?_map,Option.map_eq_some_iff]at hy
    obtain⟨v,hv,rfl⟩:=hy
    have hi:i < cs.size:=by simpa using (List.getElem?_eq_some_iff.1 hv).1
    have e:cs.getD i undef=v:=by
     rw[Array.getElem?_toList]at hv
     simp[Array.getD_eq_getD_getElem?,hv]
    have h2:=hs i hi
    rw[e]at h2 ⊢
    exact rep_ofC v h2
   ·exact .top _
 | tuple vs=>
   show Rep I L (if vs.size=0 then .tup [] else .top) _
   split
   ·rename_i h
    have e1:vs = #[]:=Array.size_eq_zero_iff.1 h
    subst e1
    exact .tup [] #[] rfl (fun i y h=>by simp at h)
   ·exact .top _
 | bool b=>exact rep_ofC (.bool b) rfl
 | int k n=>exact rep_ofC (.int k n) rfl
 | string s=>exact rep_ofC (.string s) rfl
 | pointer a=>exact rep_ofC (.pointer a) rfl
 | nilFunc=>exact rep_ofC .nilFunc rfl
 | nilIface=>exact rep_ofC .nilIface rfl
 | map r=>exact rep_ofC (.map r) rfl
 | slice a n c=>exact rep_ofC (.slice a n c) rfl
 | func fn first cap=>exact rep_ofC (.func fn first cap) rfl
 | _=>exact .top _
theorem ev_rep {I:Imm} {L:List Lay} {s:St} {a:Act} (h:TmOk I L s.n s.t a.tmps) (x:Operand):Rep I L (s.ev x) (a.eval x):=by
 cases x with
 | tmp t=>
   show Rep I L (lookD s.t t) (a.tmps.getD t undef)
   unfold lookD
   cases hq:look s.t t with
   | some y=>exact h.at hq
   | none=>exact .top _
 | const v=>exact rep_ofK v
 | global g=>exact .top _
 | func f=>exact .clo f [] #[] rfl (fun i y h=>by simp at h)
theorem put_rep {I:Imm} {L:List Lay} {s:St} {a:Act} (h:TmOk I L s.n s.t a.tmps) (d:Option Tmp) {x:AV} {v:Value} (hv:Rep I L x v) (H:List MB) :
  TmOk I L (({ s with h:=H }:St).put d x).n ((({ s with h:=H }:St).put d x).t) ((a.put d v).tmps):=by
 cases d with
 | none=>exact h
 | some i=>
   show TmOk I L s.n (if i < s.n then ins i x s.t else s.t) (a.tmps.setIfInBounds i v)
   by_cases hi:i < s.n
   ·simp only[hi,if_true]
    refine⟨by simp[h.1],ins_sorted i x s.t h.2.1,fun q hq=>?_⟩
    rcases ins_mem hq with rfl|⟨h1,h2⟩
    ·have:i < a.tmps.size:=by rw[h.1];exact hi
     refine⟨hi,?_⟩
     simpa [Array.getD_eq_getD_getElem?,this] using hv
    ·have hne:i≠q.1:=ins_ne h.2.1 hq h2
     have:(a.tmps.setIfInBounds i v).getD q.1 undef=a.tmps.getD q.1 undef:=by
      simp[Array.getD_eq_getD_getElem?,Array.getElem?_setIfInBounds_ne hne]
     rw[this];exact h.2.2 q h1
   ·simp only[hi,if_false]
    have e:a.tmps.setIfInBounds i v=a.tmps:=by
     have hs:=h.1
     apply Array.ext
     ·simp
     ·intro j h1 h2
      have hne:i≠j:=fun e=>hi (by rw[e,← h.1];exact h2)
      exact Array.getElem_setIfInBounds_ne h2 hne
    rw[e];exact h
theorem put_h (s:St) (d:Option Tmp) (x:AV):(s.put d x).h=s.h:=by cases d<;>rfl
theorem put_defers (a:Act) (d:Option Tmp) (v:Value):(a.put d v).defers=a.defers:=by cases d<;>rfl
theorem wanted_sound {I:Imm} {L:List Lay} {ops:Array Oper} {s:St} {a:Act} (h:TmOk I L s.n s.t a.tmps) {o:Oper} {b:Bool} (hw:evWanted ops.toList s o=some b) :
  Region.wanted o (yielded ops a.tmps)=b:=by
 unfold evWanted at hw
 unfold Region.wanted
 cases hg:o.guard with
 | none=>rw[hg]at hw;simpa using hw
 | some p=>
   obtain⟨j,wnt⟩:=p
   rw[hg]at hw
   simp only[Array.getElem?_toList]at hw
   simp only[yielded]
   cases hj:ops[j]? with
   | none=>
     rw[hj]at hw
     simp at hw
     simp[hw]
   | some q=>
     rw[hj]at hw
     simp only[Option.bind_some]at hw ⊢
     cases hd:q.dst with
     | none=>rw[hd]at hw;simp at hw;simp[hw]
     | some d=>
       rw[hd]at hw
       simp only[Option.bind_some]at hw ⊢
       cases ht:look s.t d with
       | none=>rw[ht]at hw;simp at hw
       | some y=>
         rw[ht]at hw
         have hr:=h.at ht
         have hlt:d < a.tmps.size:=by rw[h.1];exact(h.2.2 _ (look_mem ht)).1
         have hget:a.tmps[d]?=some (a.tmps.getD d undef):=by simp[Array.getD_eq_getD_getElem?,hlt]
         rw[hget]
         generalize a.tmps.getD d undef=v at *
         cases y with
         | bool c=>
           cases hr
           simp at hw
           subst hw
           simp
         | tup vs=>
           cases vs with
           | nil=>
             cases hr
             simp at hw;subst hw
             simp
           | cons _ _=>simp at hw
         | _=>simp at hw
theorem call_value_run {ρ:Operand→AV} {ρc:Operand→Value} {I:Imm} {L:List Lay} (hρ:∀ x,Rep I L (ρ x) (ρc x)) {f:Operand} {g:Nat} {cs:List AV} (hf:ρ f=.clo g cs) (args:Array Operand) (ty:TypeId) (ats:Array TypeId)
  (hg:∀(vs:Array Value) (w:World),(callFunc g vs).run P w=.ok (.enter g vs) w) (w:World) :
  ∃ vs,(do let d ← resolve ρc { callee:=.value f,args:=args,argTypes:=ats } ty;invoke d.target d.args:Sem Next).run P w=.ok (.enter g vs) w∧RepL I L (args.toList.map ρ++cs) vs:=by
 have hr:=hρ f
 rw[hf]at hr
 generalize hv:ρc f=v at hr
 cases hr with
 | clo _ _ ws hn hR=>
   refine⟨args.map ρc++ws,?_,?_,?_⟩
   ·simp only[resolve,hv,Deferred.ofValue,Sem.run_bind,Sem.run_pure,Result.andThen_ok,invoke,Array.empty_append,hg]
   ·simp[hn]
   ·intro i y hy
    by_cases h:i < args.size
    ·rw[List.getElem?_append_left (by simpa using h)]at hy
     simp only[List.getElem?_map,Option.map_eq_some_iff,Array.getElem?_toList]at hy
     obtain⟨x,g1,g2⟩:=hy
     subst g2
     have:(args.map ρc++ws).getD i undef=ρc x:=by
      simp only[Array.getD_eq_getD_getElem?]
      rw[Array.getElem?_append_left (by simpa using h)]
      simp[g1]
     rw[this];exact hρ x
    ·rw[List.getElem?_append_right (by simpa using h)]at hy
     have:(args.map ρc++ws).getD i undef=ws.getD (i - args.size) undef:=by
      simp only[Array.getD_eq_getD_getElem?]
      rw[Array.getElem?_append_right (by simpa using h)]
      simp
     rw[this]
     exact hR _ y (by simpa using hy)
theorem call_bound_run {ρ:Operand→AV} {ρc:Operand→Value} {I:Imm} {L:List Lay} (hρ:∀ x,Rep I L (ρ x) (ρc x)) {f:Operand} {g:Nat} {cs:List AV} (hf:ρ f=.clb g cs) (args:Array Operand) (ty:TypeId) (ats:Array TypeId)
  (hg:∀(vs:Array Value) (w:World),(callFunc g vs).run P w=.ok (.enter g vs) w) (w:World) :
  ∃ vs,(do let d ← resolve ρc { callee:=.value f,args:=args,argTypes:=ats } ty;invoke d.target d.args:Sem Next).run P w=.ok (.enter g vs) w∧RepL I L (cs++args.toList.map ρ) vs:=by
 have hr:=hρ f
 rw[hf]at hr
 generalize hv:ρc f=v at hr
 cases hr with
 | clb _ _ ws hn hR=>
   refine⟨ws++args.map ρc,?_,?_,?_⟩
   ·simp only[resolve,hv,Deferred.ofValue,Sem.run_bind,Sem.run_pure,Result.andThen_ok,invoke,Array.append_empty,hg]
   ·simp[hn]
   ·intro i y hy
    by_cases h:i < cs.length
    ·rw[List.getElem?_append_left h]at hy
     have:(ws++args.map ρc).getD i undef=ws.getD i undef:=by
      simp only[Array.getD_eq_getD_getElem?]
      rw[Array.getElem?_append_left (by omega)]
     rw[this];exact hR _ y hy
    ·rw[List.getElem?_append_right (by omega)]at hy
     simp only[List.getElem?_map,Option.map_eq_some_iff,Array.getElem?_toList]at hy
     obtain⟨x,g1,g2⟩:=hy
     subst g2
     have:(ws++args.map ρc).getD i undef=ρc x:=by
      simp only[Array.getD_eq_getD_getElem?]
      rw[Array.getElem?_append_right (by omega),hn]
      simp[g1]
     rw[this];exact hρ x
theorem evOne_sound {cf:CF} (hcf:CfOk P cf) {mu:List Nat} {ops:Array Oper} {o:Oper} {s s':St} {a:Act} (h:evOne P cf mu ops.toList o s=some s') (hs:StOk B0 w0 I0 L0 s a w)
  {Q:Exit→Act→World→Prop} {K:Act→World→Prop} (hK:∀ a' w',StOk B0 w0 I0 L0 s' a' w'→K a' w') :
  if Region.wanted o (yielded ops a.tmps) then o.wp P a w K Q else K (a.put o.dst undef) w:=by
 obtain⟨I,L,hi,hx,hd,hr⟩:=hs
 unfold evOne at h
 split at h
 ·rename_i hw
  rw[wanted_sound hr hw,if_pos rfl]
  split at h
  ·rename_i v H1 hop
   simp at h;subst h
   by_cases hc:isFnCall o=true
   ·obtain⟨dst,op,type,pos,after,guard⟩:=o
    cases op<;>try (simp[isFnCall]at hc;done)
    rename_i c
    obtain⟨callee,args,ats⟩:=c
    cases callee with
    | builtin b=>simp[isFnCall]at hc
    | invoke r m=>simp[evOp,evCall]at hop
    | value f=>
      have key:∀ cf1:CF,CfOk P cf1→evCall cf1 s.ev s.h type ⟨.value f,args,ats⟩=some (v,H1)→Oper.upon P ⟨dst,.call ⟨.value f,args,ats⟩,type,pos,after,guard⟩ a K Q ((execOp a.eval ⟨dst,.call ⟨.value f,args,ats⟩,type,pos,after,guard⟩).run P w):=by
       intro cf1 hcf1 hop
       simp only[evCall]at hop
       split at hop
       ·rename_i g cs hf
        obtain⟨c1,c2⟩:=hcf1 _ _ _ _ _ hop
        obtain⟨vs,e1,e2⟩:=call_value_run (P:=P) (fun x=>ev_rep hr x) hf args type ats c1 w
        show Oper.upon P _ a K Q ((execOp a.eval _).run P w)
        simp only[execOp]
        rw[e1]
        show Calls P g vs w _
        refine(c2 B0 w0 w I L vs hi e2).mono ?_
        rintro e w' ⟨u,I',L',rfl,i1,i2,i3⟩
        refine hK _ _ ⟨I',L',by rw[put_h];exact i1,hx.trans i2,by rw[put_defers];exact hd,put_rep (hr.mono i2) _ i3 _⟩
       ·rename_i g cs hf
        obtain⟨c1,c2⟩:=hcf1 _ _ _ _ _ hop
        obtain⟨vs,e1,e2⟩:=call_bound_run (P:=P) (fun x=>ev_rep hr x) hf args type ats c1 w
        show Oper.upon P _ a K Q ((execOp a.eval _).run P w)
        simp only[execOp]
        rw[e1]
        show Calls P g vs w _
        refine(c2 B0 w0 w I L vs hi e2).mono ?_
        rintro e w' ⟨u,I',L',rfl,i1,i2,i3⟩
        refine hK _ _ ⟨I',L',by rw[put_h];exact i1,hx.trans i2,by rw[put_defers];exact hd,put_rep (hr.mono i2) _ i3 _⟩
       ·simp at hop
      simp only[evOp]at hop
      split at hop
      ·exact key _ (evAlone_sound hcf) hop
      ·split at hop
       ·exact key _ (evThaw_sound hcf) hop
       ·exact key _ hcf hop
   ·obtain⟨n,u,w',I',L',e1,e2,e3,e4,e5⟩:=evOp_sound hi (fun x=>ev_rep hr x) (by simpa using hc) hop
    show Oper.upon P o a K Q ((execOp a.eval o).run P w)
    rw[e1]
    have fin:K (a.put o.dst u) w':=hK _ _ ⟨I',L',by rw[put_h];exact e3,hx.trans e4,by rw[put_defers];exact hd,put_rep (hr.mono e4) _ e5 _⟩
    cases n<;>simp only[nextVal,reduceCtorEq,Option.some.injEq]at e2
    ·subst e2;exact fin
    ·subst e2;exact fin
  ·simp at h
 ·rename_i hw
  rw[wanted_sound hr hw]
  simp only[Bool.false_eq_true,if_false]
  simp at h;subst h
  refine hK _ _ ⟨I,L,by rw[put_h];exact hi,hx,by rw[put_defers];exact hd,?_⟩
  exact put_rep hr o.dst (.tup [] #[] rfl (fun i y h=>by simp at h)) s.h
 ·simp at h
theorem evOps_sound {cf:CF} (hcf:CfOk P cf) {mu:List Nat} {ops:Array Oper} {Q:Exit→Act→World→Prop}:∀(l:List Oper) {s s':St} {a:Act} {w:World},evOps P cf mu ops.toList l s=some s'→StOk B0 w0 I0 L0 s a w →
  (∀ a' w',StOk B0 w0 I0 L0 s' a' w'→Q .normal a' w')→wpList P ops Q l a w
 | [],s,s',a,w,h,hs,hQ=>by
   simp[evOps]at h;subst h
   exact hQ a w hs
 | o::l,s,s',a,w,h,hs,hQ=>by
   simp only[evOps]at h
   split at h
   ·rename_i s1 h1
    have:=evOne_sound (Q:=Q) (K:=wpList P ops Q l) hcf h1 hs (fun a' w' hs'=>evOps_sound hcf l h hs' hQ)
    unfold wpList
    split
    ·rename_i hw;rw[if_pos hw]at this;exact .inl this
    ·rename_i hw;rw[if_neg hw]at this;exact this
   ·simp at h
end Go.Ev
namespace Go.Ev
open Go.RowKit
variable {P:Program} {cf:CF} {mu:List Nat} {ops:Array Oper}
mutual
theorem AV.eq_of_beq:∀(a b:AV),AV.beq a b=true→a=b
 | .top,b,h=>by cases b<;>simp[AV.beq]at h<;>rfl
 | .int k n,b,h=>by cases b<;>simp[AV.beq]at h;obtain⟨rfl,rfl⟩:=h;rfl
 | .bool x,b,h=>by cases b<;>simp[AV.beq]at h;subst h;rfl
 | .str s,b,h=>by cases b<;>simp[AV.beq]at h;subst h;rfl
 | .nilp,b,h=>by cases b<;>simp[AV.beq]at h<;>rfl
 | .nilf,b,h=>by cases b<;>simp[AV.beq]at h<;>rfl
 | .nili,b,h=>by cases b<;>simp[AV.beq]at h<;>rfl
 | .nilm,b,h=>by cases b<;>simp[AV.beq]at h<;>rfl
 | .sl t xs,b,h=>by cases b<;>simp[AV.beq]at h;obtain⟨rfl,h2⟩:=h;rw[AV.eq_of_beqL xs _ h2]
 | .pt xs,b,h=>by cases b<;>simp[AV.beq]at h;rw[AV.eq_of_beqL xs _ h]
 | .rf _ _ _ _,b,h=>by cases b<;>simp[AV.beq]at h;obtain⟨rfl,rfl,rfl,rfl⟩:=h;rfl
 | .ms _ _ _ _ _,b,h=>by cases b<;>simp[AV.beq]at h;obtain⟨rfl,rfl,rfl,rfl,rfl⟩:=h;rfl
 | .mpr _,b,h=>by cases b<;>simp[AV.beq]at h;subst h;rfl
 | .clo _ xs,b,h=>by cases b<;>simp[AV.beq]at h;obtain⟨rfl,h2⟩:=h;rw[AV.eq_of_beqL xs _ h2]
 | .clb _ xs,b,h=>by cases b<;>simp[AV.beq]at h;obtain⟨rfl,h2⟩:=h;rw[AV.eq_of_beqL xs _ h2]
 | .agg xs,b,h=>by cases b<;>simp[AV.beq]at h;rw[AV.eq_of_beqL xs _ h]
 | .tup xs,b,h=>by cases b<;>simp[AV.beq]at h;rw[AV.eq_of_beqL xs _ h]
 | .ifc _ x,b,h=>by cases b<;>simp[AV.beq]at h;obtain⟨rfl,h2⟩:=h;rw[AV.eq_of_beq x _ h2]
 | .psl _ _ _,b,h=>by cases b<;>simp[AV.beq]at h;obtain⟨rfl,rfl,rfl⟩:=h;rfl
theorem AV.eq_of_beqL:∀(a b:List AV),AV.beqL a b=true→a=b
 | [],[],_=>rfl
 | [],_::_,h=>by simp[AV.beqL]at h
 | _::_,[],h=>by simp[AV.beqL]at h
 | x::xs,y::ys,h=>by
   simp[AV.beqL]at h
   rw[AV.eq_of_beq x y h.1,AV.eq_of_beqL xs ys h.2]
end
theorem MB.eq_of_beqE:∀(a b:List (AV×AV)),MB.beqE a b=true→a=b
 | [],[],_=>rfl
 | [],_::_,h=>by simp[MB.beqE]at h
 | _::_,[],h=>by simp[MB.beqE]at h
 | (x,y)::xs,(x',y')::ys,h=>by
   simp[MB.beqE]at h
   rw[AV.eq_of_beq x x' h.1,AV.eq_of_beq y y' h.2.1,MB.eq_of_beqE xs ys h.2.2]
theorem MB.eq_of_beq (a b:MB) (h:MB.beq a b=true):a=b:=by
 cases a<;>cases b<;>simp[MB.beq]at h
 ·obtain⟨rfl,rfl,h⟩:=h;rw[AV.eq_of_beqL _ _ h]
 ·obtain⟨rfl,h⟩:=h;rw[MB.eq_of_beqE _ _ h]
theorem heapEq_eq:∀(a b:List MB),heapEq a b=true→a=b
 | [],[],_=>rfl
 | [],_::_,h=>by simp[heapEq]at h
 | _::_,[],h=>by simp[heapEq]at h
 | x::xs,y::ys,h=>by
   simp[heapEq]at h
   rw[MB.eq_of_beq x y h.1,heapEq_eq xs ys h.2]
theorem sameAt_eq {id:Nat} {H H':List MB} (h:sameAt id H H' = true):H[id]?=H'[id]?:=by
 unfold sameAt at h
 split at h
 ·rename_i x y h1 h2
  rw[h1,h2,MB.eq_of_beq _ _ h]
 ·rename_i h1 h2;rw[h1,h2]
 ·simp at h
theorem evOp_congr {ρ ρ':Operand→AV} {H:List MB} (o:Oper) (h:∀ x∈o.op.operands,ρ x=ρ' x):evOp P cf mu ρ H o=evOp P cf mu ρ' H o:=by
 obtain⟨dst,op,type,pos,after,guard⟩:=o
 have pairs:∀ ps:Array (Nat×Operand),(∀ x∈(ps.toList.map (·.2)).toArray,ρ x=ρ' x)→(ps.toList.map fun q=>(q.1,ρ q.2))=(ps.toList.map fun q=>(q.1,ρ' q.2)):=by
  intro ps hp
  refine List.map_congr_left fun p hm=>?_
  rw[hp p.2 (by simp;exact⟨p.1,by simpa using hm⟩)]
 have lst:∀ xs:Array Operand,(∀ x∈xs,ρ x=ρ' x)→xs.toList.map ρ=xs.toList.map ρ':=fun xs hx=>List.map_congr_left fun x hm=>hx x (by simpa using hm)
 cases op<;>simp only[Op.operands]at h<;>simp only[evOp]
 case move x=>rw[h x (by simp)]
 case assign x=>rw[h x (by simp)]
 case pick c a b=>rw[h c (by simp),h a (by simp),h b (by simp)]
 case box e x=>rw[h x (by simp)]
 case build t ps=>rw[pairs ps h]
 case buildSlice t n ps=>rw[pairs ps h]
 case load t a=>rw[h a (by simp)]
 case store t a x=>rw[h a (by simp),h x (by simp)]
 case nilCheck x=>rw[h x (by simp)]
 case binOp op t x y yt=>rw[h x (by simp),h y (by simp)]
 case unOp op t x=>rw[h x (by simp)]
 case convert s d x=>rw[h x (by simp)]
 case makeFunc fn first cap=>
  cases fn<;>simp only[]
  rw[lst cap (fun x hx=>h x (by simp[hx])),lst first (fun x hx=>h x (by simp[hx]))]
 case makeSlice t l c=>rw[h l (by simp),h c (by simp)]
 case slice t x lo hi mx=>
  rw[h x (by simp)]
  have e1:lo.map ρ=lo.map ρ':=by cases lo with|none=>rfl|some y=>simp only[Option.map_some];rw[h y (by simp)]
  have e2:hi.map ρ=hi.map ρ':=by cases hi with|none=>rfl|some y=>simp only[Option.map_some];rw[h y (by simp)]
  have e3:mx.map ρ=mx.map ρ':=by cases mx with|none=>rfl|some y=>simp only[Option.map_some];rw[h y (by simp)]
  rw[e1,e2,e3]
 case fieldAddr t x f=>rw[h x (by simp)]
 case field t x f=>rw[h x (by simp)]
 case indexAddr t x i=>rw[h x (by simp),h i (by simp)]
 case index t x i=>rw[h x (by simp),h i (by simp)]
 case extract x i=>rw[h x (by simp)]
 case makeMap t r=>
  have e1:r.map ρ=r.map ρ':=by cases r with|none=>rfl|some y=>simp only[Option.map_some];rw[h y (by simp)]
  rw[e1]
 case lookup t x i c=>rw[h x (by simp),h i (by simp)]
 case mapUpdate t m k v=>rw[h m (by simp),h k (by simp),h v (by simp)]
 case insert t m k v=>rw[h m (by simp),h k (by simp),h v (by simp)]
 case call c=>
  obtain⟨callee,args,ats⟩:=c
  have ha:args.toList.map ρ=args.toList.map ρ':=lst args (fun x hx=>h x (by simp[Call.operands,hx]))
  cases callee with
  | builtin b=>simp only[];rw[ha]
  | value f=>simp only[evCall];rw[ha,h f (by simp[Call.operands])]
  | invoke r m=>rfl
theorem footprint0_congr {ρ ρ':Operand→AV} {H H':List MB} (o:Oper) (h:∀ x∈o.op.operands,ρ x=ρ' x):footprint0 mu ρ o H H' = footprint0 mu ρ' o H H':=by
 obtain⟨dst,op,type,pos,after,guard⟩:=o
 cases op<;>simp only[Op.operands]at h<;>simp only[footprint0]
 case load t a=>rw[h a (by simp)]
 case convert s d x=>rw[h x (by simp)]
 case lookup t x i c=>rw[h x (by simp)]
 case call c=>
  obtain⟨callee,args,ats⟩:=c
  have ha:args.toList.map ρ=args.toList.map ρ':=List.map_congr_left fun x hm=>h x (by simp[Call.operands];exact .inr (by simpa using hm))
  rw[ha]
theorem nofoot0 {ρ:Operand→AV} {H H':List MB} {o:Oper} {v:AV} (h:evOp P cf mu ρ H o=some (v,H')) (hf:footprint0 mu ρ o H H' = none):H' = H∧∀ G,evOp P cf mu ρ G o=some (v,G):=by
 obtain⟨dst,op,type,pos,after,guard⟩:=o
 have pm:∀(q:Option AV),q.map (fun v=>(v,H))=some (v,H')→H' = H∧∀ G:List MB,q.map (fun v=>(v,G))=some (v,G):=by
  intro q hq
  cases q with
  | none=>simp at hq
  | some u=>simp at hq;obtain⟨rfl,rfl⟩:=hq;exact⟨rfl,fun G=>rfl⟩
 cases op<;>simp only[evOp]at h ⊢<;>simp only[footprint0,reduceCtorEq]at hf
 case move x=>simp at h;obtain⟨rfl,rfl⟩:=h;exact⟨rfl,fun G=>rfl⟩
 case assign x=>simp at h;obtain⟨rfl,rfl⟩:=h;exact⟨rfl,fun G=>rfl⟩
 case pick c a b=>
  split at h
  ·rename_i t ht
   simp at h;obtain⟨rfl,rfl⟩:=h;exact⟨rfl,fun G=>rfl⟩
  ·simp at h
 case build t ps=>exact pm _ h
 case buildSlice t n ps=>
  split at h
  ·rename_i es hes
   split at h
   ·rename_i hm;rw[if_pos hm]at hf;simp at hf
   ·rename_i hm
    simp at h;obtain⟨rfl,rfl⟩:=h
    exact⟨rfl,fun G=>by rw[if_neg hm]⟩
  ·simp at h
 case load t a=>
  split at h
  ·rename_i cs hcs
   split at hf
   ·rename_i ds hd
    simp only[hd,cellsAt,Option.some.injEq]at hcs ⊢
    subst hcs
    exact pm _ h
   ·simp at hf
   ·simp at hf
  ·simp at h
 case nilCheck x=>
  split at h
  ·simp at h;obtain⟨rfl,rfl⟩:=h;exact⟨rfl,fun G=>rfl⟩
  ·simp at h;obtain⟨rfl,rfl⟩:=h;exact⟨rfl,fun G=>rfl⟩
  ·simp at h;obtain⟨rfl,rfl⟩:=h;exact⟨rfl,fun G=>rfl⟩
  ·simp at h
 case binOp op t x y yt=>exact pm _ h
 case unOp op t x=>exact pm _ h
 case convert s d x=>
  split at h
  ·rename_i e he
   split at h
   ·rename_i hc
    have key:∀ G,strOf G (ρ x)=strOf H (ρ x):=fun G=>by
     cases hx:ρ x<;>first|rfl|(rw[hx]at hf;cases hf)
    obtain⟨h1,h2⟩:=(by
     cases hq:strOf H (ρ x) with
     | none=>rw[hq]at h;cases h
     | some b=>
       rw[hq]at h
       simp only[Option.map_some,Option.some.injEq,Prod.mk.injEq]at h
       obtain⟨rfl,rfl⟩:=h
       exact⟨rfl,fun G=>by rw[if_pos hc,key,hq];rfl⟩:H' = H∧∀ G,(if tyInt P e=some .u8∧tyStr P d=true then(strOf G (ρ x)).map fun b=>(AV.str b,G) else none)=some (v,G))
    exact⟨h1,h2⟩
   ·cases h
  ·exact pm _ h
 case makeFunc fn first cap=>
  cases fn<;>simp only[reduceCtorEq]at h ⊢
  split at h
  ·rename_i h0
   simp at h;obtain⟨rfl,rfl⟩:=h;exact⟨rfl,fun G=>by rw[if_pos h0]⟩
  split at h
  ·rename_i h0 h1
   simp at h;obtain⟨rfl,rfl⟩:=h;exact⟨rfl,fun G=>by rw[if_neg h0,if_pos h1]⟩
  ·simp at h
 case slice t x lo hi mx=>
  split at h
  ·simp at h
  ·rename_i ht
   have key:∀(q:AV) (a b c:Option AV),evSlice P H t q a b c=some (v,H')→H' = H∧∀ G,evSlice P G t q a b c=some (v,G):=by
    intro q a b c hq
    unfold evSlice at hq ⊢
    split at hq
    ·split at hq
     ·rename_i g1
      split at hq
      ·rename_i hh g2
       split at hq
       ·rename_i ll g3
        simp at hq;obtain⟨rfl,rfl⟩:=hq
        exact⟨rfl,fun G=>by first|(rw[if_pos g1];done)|(rw[if_pos g1];simp only[g2,g3])⟩
       ·simp at hq
      ·simp at hq
     ·simp at hq
    ·split at hq
     ·rename_i e he
      split at hq
      ·rename_i s hs
       split at hq
       ·rename_i g1
        split at hq
        ·rename_i hh g2
         split at hq
         ·rename_i ll g3
          simp at hq;obtain⟨rfl,rfl⟩:=hq
          exact⟨rfl,fun G=>by first|(rw[if_pos g1];done)|(rw[if_pos g1];simp only[g2,g3])⟩
         ·simp at hq
        ·simp at hq
       ·simp at hq
      ·simp at hq
     ·simp at hq
    ·split at hq
     ·rename_i e he
      split at hq
      ·rename_i s hs
       split at hq
       ·rename_i g1
        split at hq
        ·rename_i mm g0
         split at hq
         ·rename_i hh g2
          split at hq
          ·rename_i ll g3
           simp at hq;obtain⟨rfl,rfl⟩:=hq
           exact⟨rfl,fun G=>by first|(rw[if_pos g1];done)|(rw[if_pos g1];simp only[g0,g2,g3])⟩
          ·simp at hq
         ·simp at hq
        ·simp at hq
       ·simp at hq
      ·simp at hq
     ·simp at hq
    ·split at hq
     ·rename_i e he
      split at hq
      ·rename_i s hs
       split at hq
       ·rename_i g1
        split at hq
        ·rename_i hh g2
         split at hq
         ·rename_i ll g3
          simp at hq;obtain⟨rfl,rfl⟩:=hq
          exact⟨rfl,fun G=>by first|(rw[if_pos g1];done)|(rw[if_pos g1];simp only[g2,g3])⟩
         ·simp at hq
        ·simp at hq
       ·simp at hq
      ·simp at hq
     ·simp at hq
    ·simp at hq
   exact key _ _ _ _ h
 case fieldAddr t x f=>exact pm _ h
 case field t x f=>exact pm _ h
 case indexAddr t x i=>exact pm _ h
 case index t x i=>exact pm _ h
 case extract x i=>
  split at h
  ·exact pm _ h
  ·simp at h
 case lookup t x i c=>
  split at hf
  ·rename_i hx
   rw[hx]at h
   have e:∀ G,evLookup P G t (ρ x) (ρ i) c=evLookup P H t .nilm (ρ i) c:=fun G=>by rw[hx];rfl
   obtain⟨h1,h2⟩:=pm _ h
   exact⟨h1,fun G=>by rw[e];exact h2 G⟩
  ·cases hf
  ·cases hf
 case call c=>
  obtain⟨callee,args,ats⟩:=c
  cases callee with
  | value f=>
    simp only at hf h ⊢
    split at hf
    ·rename_i hi
     simp only[if_pos hi]at h ⊢
     have alone:∀(g:Nat) (as:List AV),evAlone cf g as H=some (v,H')→H' = H∧∀ G,evAlone cf g as G=some (v,G):=by
      intro g as hq
      unfold evAlone at hq ⊢
      split at hq
      ·rename_i hu
       split at hq
       ·rename_i r0 h0
        split at hq
        ·rename_i h1
         simp only[Option.some.injEq,Prod.mk.injEq]at hq
         obtain⟨rfl,rfl⟩:=hq
         exact⟨rfl,fun G=>by rw[if_pos hu];first|rw[if_pos h1]|(rw[h0];simp only[];rw[if_pos h1])⟩
        ·cases hq
       ·cases hq
      ·cases hq
     simp only[evCall]at h ⊢
     split at h
     ·exact alone _ _ h
     ·exact alone _ _ h
     ·cases h
    ·cases hf
  | invoke r m=>simp[evCall]at h
  | builtin b=>
    simp only at h hf ⊢
    have key:∀(ts:List TypeId) (as:List AV),(b=.len∧∀ id,as≠[.mpr id])∨b=.min∨b=.max→evBuiltin P b ts as H=some (v,H')→H' = H∧∀ G,evBuiltin P b ts as G=some (v,G):=by
     intro ts as hb hq
     unfold evBuiltin at hq ⊢
     split at hq
     ·split at hq
      ·rename_i _ x _ _ T
       have e:∀ G,evLenH P G T x=evLenH P H T x:=fun G=>by
        rcases hb with ⟨_,h2⟩|h2|h2
        ·cases x<;>first|rfl|exact absurd rfl (h2 _)
        ·cases h2
        ·cases h2
       obtain⟨h1,h2⟩:=pm _ hq
       exact⟨h1,fun G=>by rw[e];exact h2 G⟩
      ·rcases hb with ⟨h,_⟩|h|h<;>cases h
      ·cases hq
     ·split at hq
      ·rcases hb with ⟨h,_⟩|h|h<;>cases h
      ·exact pm _ hq
      ·exact pm _ hq
      ·simp at hq
     ·simp at hq
    cases b<;>simp only[reduceCtorEq]at hf
    case len=>
     refine key _ _ (.inl ⟨rfl,fun id e=>?_⟩) h
     rw[e]at hf
     cases hf
    case min=>exact key _ _ (.inr (.inl rfl)) h
    case max=>exact key _ _ (.inr (.inr rfl)) h
 all_goals simp at h
theorem rdfoot0 {ρ:Operand→AV} {H H':List MB} {o:Oper} {v:AV} {id:Nat} (h:evOp P cf mu ρ H o=some (v,H')) (hf:footprint0 mu ρ o H H' = some (.rd id)) :
  H' = H∧∀ G,G[id]?=H[id]?→evOp P cf mu ρ G o=some (v,G):=by
 obtain⟨dst,op,type,pos,after,guard⟩:=o
 cases op<;>simp only[footprint0,reduceCtorEq]at hf
 case load t a=>
  simp only[evOp]at h ⊢
  split at h
  ·rename_i cs hcs
   split at hf
   ·simp at hf
   ·rename_i i1 i2 i3 i4 hd
    simp at hf;subst hf
    cases hm:mkVal P t cs with
    | none=>rw[hm]at h;simp at h
    | some u=>
      rw[hm]at h;simp at h;obtain⟨rfl,rfl⟩:=h
      refine⟨rfl,fun G hG=>?_⟩
      have:cellsAt G (ρ a)=some cs:=by
       rw[← hcs,hd]
       simp only[cellsAt,getRow,hG]
      rw[this]
      simp[hm]
   ·simp at hf
  ·simp at h
 case convert s d x=>
  simp only[evOp]at h ⊢
  split at hf
  ·rename_i id2 a1 a2 a3 a4 hx
   simp only[Option.some.injEq,FP.rd.injEq]at hf
   subst hf
   split at h
   ·rename_i e he
    split at h
    ·rename_i hc
     cases hq:strOf H (ρ x) with
     | none=>rw[hq]at h;cases h
     | some b=>
       rw[hq]at h
       simp only[Option.map_some,Option.some.injEq,Prod.mk.injEq]at h
       obtain⟨rfl,rfl⟩:=h
       refine⟨rfl,fun G hG=>?_⟩
       have e2:strOf G (ρ x)=strOf H (ρ x):=by
        rw[hx]
        simp only[strOf,elemsOf,getRow,hG]
       rw[if_pos hc,e2,hq];rfl
    ·cases h
   ·rename_i he
    rw[hx]at h
    simp[evConvert]at h
  ·cases hf
 case lookup t x i c=>
  simp only[evOp]at h ⊢
  split at hf
  ·cases hf
  ·rename_i id2 hx
   simp only[Option.some.injEq,FP.rd.injEq]at hf
   subst hf
   rw[hx]at h ⊢
   cases hq:evLookup P H t (.mpr id2) (ρ i) c with
   | none=>rw[hq]at h;cases h
   | some u=>
     rw[hq]at h
     simp only[Option.map_some,Option.some.injEq,Prod.mk.injEq]at h
     obtain⟨rfl,rfl⟩:=h
     refine⟨rfl,fun G hG=>?_⟩
     have e:getMp G id2=getMp H id2:=by unfold getMp;rw[hG]
     have e2:evLookup P G t (.mpr id2) (ρ i) c=evLookup P H t (.mpr id2) (ρ i) c:=by simp only[evLookup,e]
     rw[e2,hq];rfl
  ·cases hf
 case call c=>
  obtain⟨callee,args,ats⟩:=c
  cases callee with
  | builtin b=>
    cases b<;>simp at hf
    case len=>
     split at hf
     ·rename_i id2 hx
      simp only[Option.some.injEq,FP.rd.injEq]at hf
      subst hf
      simp only[evOp,hx,evBuiltin]at h ⊢
      split at h
      ·rename_i T _ _
       cases hq:evLenH P H T (.mpr id2) with
       | none=>rw[hq]at h;cases h
       | some u=>
         rw[hq]at h
         simp only[Option.map_some,Option.some.injEq,Prod.mk.injEq]at h
         obtain⟨rfl,rfl⟩:=h
         refine⟨rfl,fun G hG=>?_⟩
         have e2:evLenH P G T (.mpr id2)=evLenH P H T (.mpr id2):=by simp only[evLenH,lenMp,getMp,hG]
         rw[e2,hq];rfl
      ·rename_i hb _;cases hb
      ·cases h
     ·cases hf
  | value f=>simp at hf
  | invoke r m=>simp at hf
 case buildSlice t n ps=>split at hf<;>simp at hf
 all_goals simp at hf
theorem genfoot0 {ρ:Operand→AV} {H H' G G':List MB} {o:Oper} (hf:footprint0 mu ρ o H H' = some (.gen G G')):G=H∧G' = H':=by
 obtain⟨dst,op,type,pos,after,guard⟩:=o
 cases op<;>simp only[footprint0,reduceCtorEq]at hf
 case load t a=>split at hf<;>simp at hf;exact⟨hf.1.symm,hf.2.symm⟩
 case convert s d x=>split at hf<;>simp at hf
 case lookup t x i c=>
  split at hf
  ·cases hf
  ·cases hf
  ·simp at hf;exact⟨hf.1.symm,hf.2.symm⟩
 case call c=>
  obtain⟨callee,args,ats⟩:=c
  cases callee with
  | builtin b=>
    cases b
    case len=>simp only at hf;split at hf<;>cases hf
    all_goals (simp at hf;try exact⟨hf.1.symm,hf.2.symm⟩)
  | value f=>simp at hf;exact⟨hf.2.1.symm,hf.2.2.symm⟩
  | invoke r m=>simp at hf;exact⟨hf.2.1.symm,hf.2.2.symm⟩
 case buildSlice t n ps=>split at hf<;>simp at hf;exact⟨hf.1.symm,hf.2.symm⟩
 all_goals (simp at hf;exact⟨hf.1.symm,hf.2.symm⟩)
theorem foot_any0 {ρ:Operand→AV} {H H' K K':List MB} {o:Oper} :
  (footprint0 mu ρ o H H' = none→footprint0 mu ρ o K K' = none)∧(∀ id,footprint0 mu ρ o H H' = some (.rd id)→footprint0 mu ρ o K K' = some (.rd id)) ∧
  (∀ G G',footprint0 mu ρ o H H' = some (.gen G G')→footprint0 mu ρ o K K' = some (.gen K K')):=by
 obtain⟨dst,op,type,pos,after,guard⟩:=o
 cases op<;>simp only[footprint0]
 case load t a=>cases ρ a<;>simp
 case convert s d x=>cases ρ x<;>simp
 case lookup t x i c=>cases ρ x<;>simp
 case call c=>
  obtain⟨callee,args,ats⟩:=c
  cases callee with
  | builtin b=>
    cases b
    case len=>simp only;split<;>simp
    all_goals simp
  | value f=>cases indDst mu dst<;>simp
  | invoke r m=>cases indDst mu dst<;>simp
 case buildSlice t n ps=>split<;>simp
 all_goals simp
theorem footprint_congr {ρ ρ':Operand→AV} {H H':List MB} (o:Oper) (h:∀ x∈o.op.operands,ρ x=ρ' x):footprint mu ρ o H H' = footprint mu ρ' o H H':=by
 unfold footprint
 rw[footprint0_congr o h]
 congr 1
 have h0:=footprint0_congr (mu:=mu) (H:=H) (H':=H') o h
 obtain⟨dst,op,type,pos,after,guard⟩:=o
 cases op<;>simp only[fineF]<;>try exact h0
 case store t a x=>
  have:ρ a=ρ' a:=h a (by simp[Op.operands])
  rw[this]
  split
  ·rfl
  ·exact h0
theorem nofoot {ρ:Operand→AV} {H H':List MB} {o:Oper} {v:AV} (h:evOp P cf mu ρ H o=some (v,H')) (hf:footprint mu ρ o H H' = none):H' = H∧∀ G,evOp P cf mu ρ G o=some (v,G):=by
 unfold footprint at hf
 split at hf
 ·refine nofoot0 h ?_
  obtain⟨dst,op,type,pos,after,guard⟩:=o
  cases op<;>simp only[fineF,reduceCtorEq]at hf<;>try exact hf
  case store t a x=>
   split at hf
   ·cases hf
   ·exact hf
 ·exact nofoot0 h hf
theorem rdfoot {ρ:Operand→AV} {H H':List MB} {o:Oper} {v:AV} {id:Nat} (h:evOp P cf mu ρ H o=some (v,H')) (hf:footprint mu ρ o H H' = some (.rd id)) :
  H' = H∧∀ G,G[id]?=H[id]?→evOp P cf mu ρ G o=some (v,G):=by
 unfold footprint at hf
 split at hf
 ·refine rdfoot0 h ?_
  obtain⟨dst,op,type,pos,after,guard⟩:=o
  cases op<;>simp only[fineF,reduceCtorEq,Option.some.injEq]at hf<;>try exact hf
  case store t a x=>
   split at hf
   ·cases hf
   ·exact hf
 ·exact rdfoot0 h hf
theorem genfoot {ρ:Operand→AV} {H H' G G':List MB} {o:Oper} (hf:footprint mu ρ o H H' = some (.gen G G')):G=H∧G' = H':=by
 unfold footprint at hf
 split at hf
 ·refine genfoot0 (mu:=mu) (ρ:=ρ) (o:=o) ?_
  obtain⟨dst,op,type,pos,after,guard⟩:=o
  cases op<;>simp only[fineF,reduceCtorEq,Option.some.injEq]at hf<;>try exact hf
  case store t a x=>
   split at hf
   ·cases hf
   ·exact hf
 ·exact genfoot0 hf
theorem foot0_not {ρ:Operand→AV} {H H':List MB} {o:Oper}:(∀ n,footprint0 mu ρ o H H'≠some (.mk n))∧(∀ n,footprint0 mu ρ o H H'≠some (.wr n)):=by
 obtain⟨dst,op,type,pos,after,guard⟩:=o
 cases op<;>simp only[footprint0]
 case load t a=>cases ρ a<;>simp
 case convert s d x=>cases ρ x<;>simp
 case lookup t x i c=>cases ρ x<;>simp
 case call c=>
  obtain⟨callee,args,ats⟩:=c
  cases callee with
  | builtin b=>
    cases b
    case len=>simp only;split<;>simp
    all_goals simp
  | value f=>cases indDst mu dst<;>simp
  | invoke r m=>cases indDst mu dst<;>simp
 case buildSlice t n ps=>split<;>simp
 all_goals simp
theorem mkfoot {ρ:Operand→AV} {H H':List MB} {o:Oper} {v:AV} {n:Nat} (h:evOp P cf mu ρ H o=some (v,H')) (hf:footprint mu ρ o H H' = some (.mk n)) :
  n=H.length∧(∃ b,H' = H++[b]∧∀ G,G.length=H.length→evOp P cf mu ρ G o=some (v,G++[b]))∧∀ K K',K.length=H.length→footprint mu ρ o K K' = some (.mk n):=by
 unfold footprint at hf ⊢
 split at hf
 ·rename_i hc
  simp only[if_pos hc]
  obtain⟨dst,op,type,pos,after,guard⟩:=o
  cases op<;>simp only[fineF,reduceCtorEq,Option.some.injEq,FP.mk.injEq]at hf ⊢<;>try exact absurd hf (foot0_not.1 _)
  case store t a x=>
   split at hf
   ·cases hf
   ·exact absurd hf (foot0_not.1 _)
  case alloc e=>
   subst hf
   refine⟨rfl,?_,fun K _ hK=>hK⟩
   simp only[evOp]at h ⊢
   split at h
   ·rename_i z hz
    split at h
    ·rename_i hz2
     simp only[Option.some.injEq,Prod.mk.injEq]at h
     obtain⟨rfl,rfl⟩:=h
     exact⟨_,rfl,fun G hG=>by rw[if_pos hz2,hG]⟩
    ·cases h
   ·cases h
  case box e x=>
   subst hf
   refine⟨rfl,?_,fun K _ hK=>hK⟩
   simp only[evOp]at h ⊢
   split at h
   ·rename_i hz2
    simp only[Option.some.injEq,Prod.mk.injEq]at h
    obtain⟨rfl,rfl⟩:=h
    exact⟨_,rfl,fun G hG=>by rw[if_pos hz2,hG]⟩
   ·cases h
  case makeMap t r=>
   subst hf
   refine⟨rfl,?_,fun K _ hK=>hK⟩
   simp only[evOp]at h ⊢
   split at h
   ·rename_i hk
    split at h
    ·rename_i hz2
     simp only[Option.some.injEq,Prod.mk.injEq]at h
     obtain⟨rfl,rfl⟩:=h
     exact⟨_,rfl,fun G hG=>by rw[if_pos hz2,hG]⟩
    ·cases h
   ·cases h
  case makeSlice t l c=>
   subst hf
   refine⟨rfl,?_,fun K _ hK=>hK⟩
   simp only[evOp,evMakeSlice]at h ⊢
   split at h
   ·split at h
    ·split at h
     ·rename_i hz2
      simp only[Option.some.injEq,Prod.mk.injEq]at h
      obtain⟨rfl,rfl⟩:=h
      exact⟨_,rfl,fun G hG=>by first|(rw[if_pos hz2,hG];done)|(simp only[*];rw[if_pos hz2])⟩
     ·cases h
    ·cases h
   ·cases h
 ·exact absurd hf (foot0_not.1 _)
theorem wrfoot {ρ:Operand→AV} {H H':List MB} {o:Oper} {v:AV} {id:Nat} (h:evOp P cf mu ρ H o=some (v,H')) (hf:footprint mu ρ o H H' = some (.wr id)) :
  (∃ b,H' = H.set id b∧∀ G,G[id]?=H[id]?→evOp P cf mu ρ G o=some (v,G.set id b))∧∀ K K',footprint mu ρ o K K' = some (.wr id):=by
 unfold footprint at hf ⊢
 split at hf
 ·rename_i hc
  simp only[if_pos hc]
  obtain⟨dst,op,type,pos,after,guard⟩:=o
  cases op<;>simp only[fineF,reduceCtorEq,Option.some.injEq]at hf ⊢<;>try exact absurd hf (foot0_not.2 _)
  case store t a x=>
   split at hf
   ·rename_i i1 tot i j ha
    simp only[Option.some.injEq,FP.wr.injEq]at hf
    subst hf
    simp only[ha]
    refine⟨?_,fun _ _=>trivial⟩
    simp only[evOp,ha]at h ⊢
    cases hs:evStore P H t (.rf i1 tot i j) (ρ x) with
    | none=>rw[hs]at h;cases h
    | some H2=>
      rw[hs]at h
      simp only[Option.map_some,Option.some.injEq,Prod.mk.injEq]at h
      obtain⟨rfl,rfl⟩:=h
      have key:∃ b,H2=H.set i1 b∧∀ G:List MB,G[i1]?=H[i1]?→evStore P G t (.rf i1 tot i j) (ρ x)=some (G.set i1 b):=by
       simp only[evStore]at hs ⊢
       cases hr:getRow H i1 with
       | none=>rw[hr]at hs;cases hs
       | some q=>
         obtain⟨k,els,z⟩:=q
         rw[hr]at hs
         simp only at hs
         have hrG:∀ G:List MB,G[i1]?=H[i1]?→getRow G i1=some (k,els,z):=fun G hG=>by rw[← hr];unfold getRow;rw[hG]
         split at hs
         ·rename_i g1
          split at hs
          ·rename_i y s e1 e2
           split at hs
           ·rename_i g2
            simp only[Option.some.injEq]at hs
            exact⟨_,hs.symm,fun G hG=>by rw[hrG G hG];simp only;rw[if_pos g1];simp only[e1,e2];rw[if_pos g2]⟩
           ·cases hs
          ·cases hs
         ·cases hs
      obtain⟨b,k1,k2⟩:=key
      exact⟨b,k1,fun G hG=>by rw[k2 G hG];rfl⟩
   ·exact absurd hf (foot0_not.2 _)
 ·exact absurd hf (foot0_not.2 _)
theorem foot_any {ρ:Operand→AV} {H H' K K':List MB} {o:Oper} :
  (footprint mu ρ o H H' = none→footprint mu ρ o K K' = none)∧(∀ id,footprint mu ρ o H H' = some (.rd id)→footprint mu ρ o K K' = some (.rd id)) ∧
  (∀ G G',footprint mu ρ o H H' = some (.gen G G')→footprint mu ρ o K K' = some (.gen K K')):=by
 unfold footprint
 split
 ·have h0:=foot_any0 (mu:=mu) (ρ:=ρ) (o:=o) (H:=H) (H':=H') (K:=K) (K':=K')
  obtain⟨dst,op,type,pos,after,guard⟩:=o
  cases op<;>simp only[fineF]<;>first|exact h0|skip
  case store t a x=>
   split
   ·simp
   ·exact h0
  all_goals simp
 ·exact foot_any0
def fpOf (mu:List Nat) (ρ:Operand→AV) (o:Oper) (b:Bool) (H H':List MB):Option FP:=if b=true then footprint mu ρ o H H' else none
inductive Run (P:Program) (cf:CF) (mu:List Nat) (ops:Array Oper):List (Nat×Option FP)→St→St→Prop where
 | nil (s:St):Run P cf mu ops [] s s
 | cons {i:Nat} {o:Oper} {b:Bool} {f:Option FP} {s s1 s2:St} {l:List (Nat×Option FP)} (ho:ops[i]?=some o) (hw:evWanted ops.toList s o=some b)
    (h1:evOne P cf mu ops.toList o s=some s1) (hf:f=fpOf mu s.ev o b s.h s1.h) (hr:Run P cf mu ops l s1 s2):Run P cf mu ops ((i,f)::l) s s2
def apartO:Option FP→Option FP→Bool
 | some p,some q=>p.apart q
 | _,_=>true
theorem wanted_put {ops:Array Oper} {o:Oper} {s:St} {d:Option Tmp} {v:AV} {H:List MB} (h:∀ t,d=some t→t ∉ o.looksAt ops):evWanted ops.toList (({ s with h:=H }:St).put d v) o=evWanted ops.toList s o:=by
 unfold evWanted
 cases hg:o.guard with
 | none=>rfl
 | some p=>
   obtain⟨j,wnt⟩:=p
   simp only[Array.getElem?_toList]
   cases hj:ops[j]? with
   | none=>rfl
   | some q=>
     cases hd:q.dst with
     | none=>simp[hd]
     | some e=>
       simp only[hd]
       cases d with
       | none=>rfl
       | some t=>
         have hne:t≠e:=fun e'=>h t rfl (by subst e';simp[Oper.looksAt,hg,hj,hd])
         have hg:look (({ s with h:=H }:St).put (some t) v).t e=look s.t e:=by
          show look (if t < s.n then ins t v s.t else s.t) e=_
          split
          ·exact look_ins_ne hne _
          ·rfl
         rw[hg]
theorem ev_put {o:Oper} {s:St} {d:Option Tmp} {v:AV} {H:List MB} (h:∀ t,d=some t→t ∉ o.looksAt ops):∀ x∈o.op.operands,(({ s with h:=H }:St).put d v).ev x=s.ev x:=by
 intro x hx
 cases d with
 | none=>rfl
 | some t=>
   cases x with
   | tmp u=>
     have hne:t≠u:=fun e=>h t rfl (by
      subst e
      exact List.mem_append_left _ (List.mem_filterMap.2 ⟨.tmp t,by simpa using hx,rfl⟩))
     show lookD (({ s with h:=H }:St).put (some t) v).t u=lookD s.t u
     show lookD (if t < s.n then ins t v s.t else s.t) u=_
     split
     ·unfold lookD;rw[look_ins_ne hne _]
     ·rfl
   | _=>rfl
theorem put_comm {s:St} {d e:Option Tmp} (hne:∀ t,d=some t→e≠some t) (v u:AV) (H:List MB) :
  ({ (s.put d v) with h:=H }:St).put e u=(({ (s.put e u) with h:=H }:St).put d v):=by
 cases d with
 | none=>cases e<;>rfl
 | some t=>
   cases e with
   | none=>rfl
   | some q=>
     have:t≠q:=fun h=>hne t rfl (by rw[h])
     show ({ n:=s.n,t:=if q < s.n then ins q u (if t < s.n then ins t v s.t else s.t) else(if t < s.n then ins t v s.t else s.t),h:=H }:St) =
      { n:=s.n,t:=if t < s.n then ins t v (if q < s.n then ins q u s.t else s.t) else(if q < s.n then ins q u s.t else s.t),h:=H }
     by_cases a:t < s.n<;>by_cases b:q < s.n<;>simp only[a,b,if_true,if_false]
     rw[ins_comm (Ne.symm this) _]
theorem evOne_parts {o:Oper} {s s1:St} (h:evOne P cf mu ops.toList o s=some s1) :
  (evWanted ops.toList s o=some true∧∃ v H,evOp P cf mu s.ev s.h o=some (v,H)∧s1=({ s with h:=H }:St).put o.dst v) ∨
  (evWanted ops.toList s o=some false∧s1=s.put o.dst (.tup [])):=by
 unfold evOne at h
 split at h
 ·rename_i hw
  split at h
  ·rename_i v H hop
   simp at h
   exact .inl ⟨hw,v,H,hop,h.symm⟩
  ·simp at h
 ·rename_i hw
  simp at h
  exact .inr ⟨hw,h.symm⟩
 ·simp at h
theorem neb {i j:Nat} (h:(!(i == j))=true):i≠j:=by simpa using h
theorem getElem?_snoc_ne {H:List MB} {b:MB} {j:Nat} (h:j≠H.length):(H++[b])[j]?=H[j]?:=by
 rcases Nat.lt_or_ge j H.length with h1|h1
 ·exact List.getElem?_append_left h1
 ·rw[List.getElem?_eq_none (by simp;omega),List.getElem?_eq_none h1]
theorem set_snoc_ne {H:List MB} {b y:MB} {j:Nat} (h:j≠H.length):H.set j y++[b]=(H++[b]).set j y:=by
 rcases Nat.lt_or_ge j H.length with h1|h1
 ·rw[List.set_append_left _ _ h1]
 ·rw[List.set_append_right _ _ h1,List.set_eq_of_length_le h1,List.set_eq_of_length_le (by simp;omega)]
theorem Run.swap {x i:Nat} {fx fi:Option FP} {l:List (Nat×Option FP)} {s s2:St} (h:Run P cf mu ops ((x,fx)::(i,fi)::l) s s2)
  (ha:∀ p q,ops[x]?=some p→ops[i]?=some q→p.apart ops q=true) (hf:apartO fx fi=true):Run P cf mu ops ((i,fi)::(x,fx)::l) s s2:=by
 cases h with
 | @cons _ ox bx _ _ s1 _ _ hox hwx h1x hfx hr=>
   cases hr with
   | @cons _ oi bi _ _ s3 _ _ hoi hwi h1i hfi hr2=>
     obtain⟨a1,a2,a3⟩:=Oper.apart_spec (ha ox oi hox hoi)
     have key:∃(vx vi:AV) (Hx Hi Gi:List MB),s1=({ s with h:=Hx }:St).put ox.dst vx∧s3=({ s1 with h:=Hi }:St).put oi.dst vi ∧
       evWanted ops.toList s oi=some bi ∧
       (bx=true→evOp P cf mu s.ev s.h ox=some (vx,Hx))∧(bx=false→vx=.tup []∧Hx=s.h) ∧
       (bi=true→evOp P cf mu s.ev Hx oi=some (vi,Hi))∧(bi=false→vi=.tup []∧Hi=Hx) ∧
       fx=fpOf mu s.ev ox bx s.h Hx∧fi=fpOf mu s.ev oi bi Hx Hi∧Gi=Hi:=by
      have hx:∃ vx Hx,s1=({ s with h:=Hx }:St).put ox.dst vx∧(bx=true→evOp P cf mu s.ev s.h ox=some (vx,Hx))∧(bx=false→vx=.tup []∧Hx=s.h):=by
       rcases evOne_parts h1x with ⟨b1,v,H,b2,b3⟩|⟨b1,b2⟩
       ·rw[hwx]at b1;obtain rfl:=Option.some.inj b1
        exact⟨v,H,b3,fun _=>b2,fun h=>by cases h⟩
       ·rw[hwx]at b1;obtain rfl:=Option.some.inj b1
        exact⟨.tup [],s.h,b2,fun h=>(by cases h),fun _=>⟨rfl,rfl⟩⟩
      obtain⟨vx,Hx,e1,e2,e3⟩:=hx
      have hs1h:s1.h=Hx:=by rw[e1,put_h]
      have hwi':evWanted ops.toList s oi=some bi:=by rw[← hwi,e1,wanted_put a1]
      have hev:∀ y∈oi.op.operands,s1.ev y=s.ev y:=by rw[e1];exact ev_put a1
      have hi:∃ vi Hi,s3=({ s1 with h:=Hi }:St).put oi.dst vi∧(bi=true→evOp P cf mu s.ev Hx oi=some (vi,Hi))∧(bi=false→vi=.tup []∧Hi=Hx):=by
       rcases evOne_parts h1i with ⟨b1,v,H,b2,b3⟩|⟨b1,b2⟩
       ·rw[hwi]at b1;obtain rfl:=Option.some.inj b1
        refine⟨v,H,b3,fun _=>?_,fun h=>by cases h⟩
        rw[← b2,hs1h];exact(evOp_congr oi hev).symm
       ·rw[hwi]at b1;obtain rfl:=Option.some.inj b1
        refine⟨.tup [],Hx,?_,fun h=>(by cases h),fun _=>⟨rfl,rfl⟩⟩
        rw[b2];congr 1
        cases s1;simp at hs1h;rw[hs1h]
      obtain⟨vi,Hi,g1,g2,g3⟩:=hi
      refine⟨vx,vi,Hx,Hi,Hi,e1,g1,hwi',e2,e3,g2,g3,by rw[hfx,hs1h],?_,rfl⟩
      have hs3h:s3.h=Hi:=by rw[g1,put_h]
      rw[hfi,hs1h,hs3h]
      unfold fpOf
      rw[footprint_congr oi hev]
     obtain⟨vx,vi,Hx,Hi,_,e1,e2,hwi',x1,x2,i1,i2,f1,f2,_⟩:=key
     have other:∃ H1,(bi=true→evOp P cf mu s.ev s.h oi=some (vi,H1))∧(bi=false→H1=s.h)∧(bx=true→evOp P cf mu s.ev H1 ox=some (vx,Hi))∧(bx=false→H1=Hi) ∧
       fi=fpOf mu s.ev oi bi s.h H1∧fx=fpOf mu s.ev ox bx H1 Hi:=by
      cases bx with
      | false=>
        obtain⟨_,rfl⟩:=x2 rfl
        exact⟨Hi,i1,fun h=>(i2 h).2,fun h=>(by cases h),fun _=>rfl,f2,f1⟩
      | true=>
        have x1:=x1 rfl
        cases bi with
        | false=>
          obtain⟨_,rfl⟩:=i2 rfl
          exact⟨s.h,fun h=>(by cases h),fun _=>rfl,fun _=>x1,fun h=>(by cases h),f2,f1⟩
        | true=>
          have i1:=i1 rfl
          have f1:fx=footprint mu s.ev ox s.h Hx:=f1
          have f2:fi=footprint mu s.ev oi Hx Hi:=f2
          have goal:∀ H1,evOp P cf mu s.ev s.h oi=some (vi,H1)→evOp P cf mu s.ev H1 ox=some (vx,Hi)→fi=footprint mu s.ev oi s.h H1→fx=footprint mu s.ev ox H1 Hi →
            ∃ H1,(true=true→evOp P cf mu s.ev s.h oi=some (vi,H1))∧(true=false→H1=s.h)∧(true=true→evOp P cf mu s.ev H1 ox=some (vx,Hi))∧(true=false→H1=Hi) ∧
              fi=fpOf mu s.ev oi true s.h H1∧fx=fpOf mu s.ev ox true H1 Hi:=
           fun H1 c1 c2 c3 c4=>⟨H1,fun _=>c1,fun h=>(by cases h),fun _=>c2,fun h=>(by cases h),c3,c4⟩
          cases fx with
          | none=>
            obtain⟨rfl,nx⟩:=nofoot x1 f1.symm
            exact goal Hi i1 (nx Hi) f2 (foot_any.1 f1.symm).symm
          | some px=>
            cases px with
            | rd id=>
              obtain⟨rfl,nx⟩:=rdfoot x1 f1.symm
              have hsame:Hi[id]?=s.h[id]?:=by
               cases fi with
               | none=>rw[(nofoot i1 f2.symm).1]
               | some pi=>
                 cases pi with
                 | rd id'=>rw[(rdfoot i1 f2.symm).1]
                 | gen G G'=>
                   obtain⟨rfl,rfl⟩:=genfoot f2.symm
                   exact(sameAt_eq hf).symm
                 | mk n=>
                   obtain⟨rfl,⟨b,rfl,_⟩,_⟩:=mkfoot i1 f2.symm
                   exact getElem?_snoc_ne (neb hf)
                 | wr j=>
                   obtain⟨⟨b,rfl,_⟩,_⟩:=wrfoot i1 f2.symm
                   exact List.getElem?_set_ne (Ne.symm (neb hf))
              exact goal Hi i1 (nx Hi hsame) f2 (foot_any.2.1 id f1.symm).symm
            | mk n=>
              obtain⟨hn,⟨b,rfl,nx⟩,lx⟩:=mkfoot x1 f1.symm
              cases fi with
              | none=>
                obtain⟨q1,ni⟩:=nofoot i1 f2.symm
                subst q1
                exact goal s.h (ni s.h) x1 (foot_any.1 f2.symm).symm f1
              | some pi=>
                cases pi with
                | rd id=>
                  obtain⟨q1,ni⟩:=rdfoot i1 f2.symm
                  subst q1
                  have hne:=neb hf
                  rw[hn]at hne
                  exact goal s.h (ni s.h (getElem?_snoc_ne (Ne.symm hne)).symm) x1 (foot_any.2.1 id f2.symm).symm f1
                | wr j=>
                  obtain⟨⟨y,rfl,ni⟩,li⟩:=wrfoot i1 f2.symm
                  have hne:=neb hf
                  rw[hn]at hne
                  refine goal (s.h.set j y) (ni s.h (getElem?_snoc_ne (Ne.symm hne)).symm) ?_ (li _ _).symm (lx _ _ (by simp)).symm
                  rw[nx _ (by simp),set_snoc_ne (Ne.symm hne)]
                | gen K K'=>cases hf
                | mk m=>cases hf
            | wr j=>
              obtain⟨⟨y,rfl,nx⟩,lx⟩:=wrfoot x1 f1.symm
              cases fi with
              | none=>
                obtain⟨q1,ni⟩:=nofoot i1 f2.symm
                subst q1
                exact goal s.h (ni s.h) x1 (foot_any.1 f2.symm).symm f1
              | some pi=>
                cases pi with
                | rd id=>
                  obtain⟨q1,ni⟩:=rdfoot i1 f2.symm
                  subst q1
                  exact goal s.h (ni s.h (List.getElem?_set_ne (neb hf)).symm) x1 (foot_any.2.1 id f2.symm).symm f1
                | wr i=>
                  obtain⟨⟨u,rfl,ni⟩,li⟩:=wrfoot i1 f2.symm
                  have hne:=neb hf
                  refine goal (s.h.set i u) (ni s.h (List.getElem?_set_ne hne).symm) ?_ (li _ _).symm (lx _ _).symm
                  rw[nx _ (List.getElem?_set_ne (Ne.symm hne)),List.set_comm _ _ hne]
                | mk m=>
                  obtain⟨hm,⟨b,rfl,ni⟩,li⟩:=mkfoot i1 f2.symm
                  have hne:=neb hf
                  rw[List.length_set]at hm
                  rw[hm]at hne
                  refine goal (s.h++[b]) (ni s.h (by simp)) ?_ (li _ _ (by simp)).symm (lx _ _).symm
                  rw[nx _ (getElem?_snoc_ne hne),set_snoc_ne hne]
                | gen K K'=>cases hf
            | gen G G'=>
              obtain⟨p1,p2⟩:=genfoot f1.symm
              cases fi with
              | none=>
                obtain⟨q1,ni⟩:=nofoot i1 f2.symm
                subst q1
                exact goal s.h (ni s.h) x1 (foot_any.1 f2.symm).symm f1
              | some pi=>
                cases pi with
                | rd id=>
                  obtain⟨q1,ni⟩:=rdfoot i1 f2.symm
                  subst q1
                  have hs:sameAt id G G' = true:=hf
                  rw[p1,p2]at hs
                  exact goal s.h (ni s.h (sameAt_eq hs)) x1 (foot_any.2.1 id f2.symm).symm f1
                | mk m=>cases hf
                | wr m=>cases hf
                | gen K K'=>
                  obtain⟨p3,p4⟩:=genfoot f2.symm
                  have hq:heapEq G' G=true∧heapEq K' K=true:=by simpa [apartO,FP.apart] using hf
                  have q1:=heapEq_eq _ _ hq.1
                  have q2:=heapEq_eq _ _ hq.2
                  have q3:Hx=s.h:=by rw[← p2,q1,p1]
                  have q4:Hi=Hx:=by rw[← p4,q2,p3]
                  subst q4
                  rw[q3]at i1 x1 f1 f2
                  refine goal s.h ?_ ?_ ?_ ?_
                  ·exact i1
                  ·rw[q3];exact x1
                  ·exact f2
                  ·rw[q3];exact f1
     obtain⟨H1,o1,o2,o3,o4,o5,o6⟩:=other
     have one:∀(o:Oper) (t:St) (b:Bool) (v:AV) (H:List MB),evWanted ops.toList t o=some b→(b=true→evOp P cf mu t.ev t.h o=some (v,H))→(b=false→v=.tup []∧H=t.h) →
       evOne P cf mu ops.toList o t=some (({ t with h:=H }:St).put o.dst v):=by
      intro o t b v H h1 h2 h3
      unfold evOne
      rw[h1]
      cases b with
      | true=>simp only[h2 rfl]
      | false=>
        obtain⟨rfl,rfl⟩:=h3 rfl
        rfl
     have e3:=one oi s bi vi H1 hwi' o1 (fun h=>⟨(i2 h).1,o2 h⟩)
     have e4:=one ox (({ s with h:=H1 }:St).put oi.dst vi) bx vx Hi (by rw[wanted_put a3];exact hwx)
      (fun h=>by
        rw[put_h,← o3 h]
        exact evOp_congr ox (ev_put a3))
      (fun h=>⟨(x2 h).1,by rw[put_h];exact(o4 h).symm⟩)
     have e5:(({ ((({ s with h:=H1 }:St).put oi.dst vi)) with h:=Hi }:St).put ox.dst vx)=s3:=by
      rw[e2,e1]
      have c1:({ (({ s with h:=H1 }:St).put oi.dst vi) with h:=Hi }:St)=({ s with h:=Hi }:St).put oi.dst vi:=by cases oi.dst<;>rfl
      have c2:({ (({ s with h:=Hx }:St).put ox.dst vx) with h:=Hi }:St)=({ s with h:=Hi }:St).put ox.dst vx:=by cases ox.dst<;>rfl
      rw[c1,c2]
      have:=put_comm (s:={ s with h:=Hi }) (d:=oi.dst) (e:=ox.dst) (fun t h h'=>a2 t h' h) vi vx Hi
      have c3:∀(d:Option Tmp) (v:AV),({ (({ s with h:=Hi }:St).put d v) with h:=Hi }:St)=({ s with h:=Hi }:St).put d v:=by intro d v;cases d<;>rfl
      rw[c3,c3]at this
      exact this
     rw[e5]at e4
     refine .cons hoi hwi' e3 (by rw[put_h];exact o5) (.cons hox (by rw[wanted_put a3];exact hwx) e4 ?_ hr2)
     have:s3.h=Hi:=by rw[e2,put_h]
     rw[this,put_h,o6]
     unfold fpOf
     rw[footprint_congr ox (ev_put a3)]
end Go.Ev
