/- Functions of the program, each with what it computes; no further conditions. -/
import Derived.Test.YtmfpcondongbjaaDoorR07
import Derived.Test.YtmfpcondongbjaaDoorR19
import Derived.Test.YtmfpcondongbjaaDoorR14
import Derived.Test.YtmfpcondongbjaaDoorR16
import Derived.Test.YtmfpcondongbjaaDoorR17
import Derived.Test.YtmfpcondongbjaaDoorR18
import Derived.Test.YtmfpcondongbjaaDoorR12
import Derived.Test.YtmfpcondongbjaaDoorR08
import Derived.Test.YtmfpcondongbjaaDoorR13
import Derived.Test.YtmfpcondongbjaaDoorR15
set_option linter.unusedVariables false
set_option linter.unusedSimpArgs false
namespace Go.Ev
attribute [local go_sem] evBuild splice List.length_append List.map_append tySzE List.head?_drop Nat.mul_one zAN zAQ zAL zAO zAP zAU
section
attribute [local go_sem] evAppend
open Go.Proofs Go.RowKit Go.IntWalk
set_option maxRecDepth 100000
set_option maxHeartbeats 8000000
theorem en49 (vs:Array Value) (w:World):(callFunc 21 vs).run Tryd.prog w=.ok (.enter 21 vs) w:=zFf Tryd.func21 rfl rfl vs w
abbrev Law49 (ins:List Int) (s:Value) (re:Re):Prop:=
 ∀ I w vs,Val I w→SliceOk I w s ins→RepL I [] [.pt (reC re),pinOf s] vs→Calls Tryd.prog 21 vs w (fun e w'=>e=.returned (.bool (compG ins re))∧Fr (spOf s) w w')
theorem f49a (caps top:Int):∀(N:Nat) (re:Re) (ins:List Int),re.wt≤N→re.wt≤1000000→ins.length+re.wt≤2000000→wholeG caps top re=true→∀ s,Law49 ins s re
 | 0,r,_,h,_,_,_,_=>by have:=r.wt_pos;omega
 | N+1,.mk op set kids mn mx md n neg,ins,h,hN,hI,hw,s=>by
   intro I w vs hv hs hr
   have hkl:=Re.wtL_len kids
   have hwt:1+set.length+Re.wtL kids=(Re.mk op set kids mn mx md n neg).wt:=by simp[Re.wt]
   obtain⟨hwk,hkd,hrp,_,ho1,ho2⟩:=zAt hw
   have ih:=fun k (hk:k∈kids) (ins':List Int) (hi:ins'.length≤ins.length+1)=>f49a caps top N k ins' (by have:=Re.wtL_mem hk;omega) (by have:=Re.wtL_mem hk;omega) (by have:=Re.wtL_mem hk;omega) (hwk k hk)
   have h105:=fun k (hk:k∈kids)=>zMN k (by have:=Re.wtL_mem hk;omega) caps top (hwk k hk)
   have h106:=zMM ins n (by omega)
   refine calls_of_wp Tryd.func21 rfl ?_
   rw[show reC (.mk op set kids mn mx md n neg)=nodeL op set kids mn mx md n neg from zFn]at hr
   have h0:HSt I w (spOf s) 65 [(1,pinOf s),(0,.pt (nodeL op set kids mn mx md n neg))] _ w:=HSt.init (m:=65) hv hs.has hr
   have hsp:∀ k o,spOf s=some (k,o)→k < w.heap.size:=fun k o e=>by
    obtain⟨cs,T,e⟩:=hs.has k o e
    exact(Array.getElem?_eq_some_iff.1 e).1
   have hpin:=(hs.pin (J:=I) (L:=[])).2.1
   have hret:∀ a' w',Fr (spOf s) w w'→a'.defers=[]→a'.tmps.getD 4 undef=.bool (compG ins (.mk op set kids mn mx md n neg))→bodyPost Tryd.prog Tryd.f21 (fun e w'=>e=.returned (.bool (compG ins (.mk op set kids mn mx md n neg)))∧Fr (spOf s) w w') .ret a' w':=by
    intro a' w' g1 g2 g3
    exact⟨g2,_,by rw[zH5 (d:=4) rfl,g3],rfl,g1⟩
   generalize bodyPost Tryd.prog Tryd.f21 (fun e w'=>e=.returned (.bool (compG ins (.mk op set kids mn mx md n neg)))∧Fr (spOf s) w w')=Q at hret ⊢
   have hu1:AV.underL 0 (set.map spanAV)=true:=zAD 0 _ (zAG set)
   have hu2:AV.underL 0 (kids.map reAV)=true:=zAD 0 _ (zAp kids)
   refine wp_seq_k fun K hK=>?_
   refine h0.W ok1 zA9 zAc hsp (mu:=pol1.muts 21) (m:=cfgOf pol1 21 0) ?_
   simp +contextual (disch:=omega) only[Tryd.f21,dd21,go_sem,simprocAttr,mu21,↓zAE,↓zAC,↓zAB,↓zAA,AV.underL,AV.under,hpin,hu1,hu2,exOf]
   refine fun a1 w1 h1=>hK _ _ ?_
   clear hK K
   refine wp_seq_k fun K hK=>?_
   have hrest:∀ I1 w1 s1 ins1 a2 w2 t,SliceOk I1 w1 s1 ins1→Fr (spOf s) w w1→SpLe w.heap.size (spOf s) (spOf s1)→HSt I1 w1 (spOf s1) 65 t a2 w2→List.Sublist [(1,pinOf s1),(0,.pt (nodeL op set kids mn mx md n neg))] t →
     ins1.length≤ins.length+1→compG ins (.mk op set kids mn mx md n neg)=compL ins1 kids→K a2 w2:=by
    intro I1 w1 s1 ins1 a2 w2 t hs1 hfr hle h2 hsub hlen hcomp
    refine hK a2 w2 ?_
    replace h2:=h2.sub hsub
    clear hK hsub
    have hsp1:∀ k o,spOf s1=some (k,o)→k < w1.heap.size:=fun k o e=>by
     obtain⟨cs,T,e⟩:=hs1.has k o e
     exact(Array.getElem?_eq_some_iff.1 e).1
    have hpin1:=(hs1.pin (J:=I) (L:=[])).2.1
    refine wp_seq_k fun K hK=>?_
    refine wp_seq_k fun K2 hK2=>?_
    refine h2.W ok1 zA9 zAc hsp1 (mu:=pol1.muts 21) (m:=cfgOf pol1 21 0) ?_
    simp +contextual (disch:=omega) only[Tryd.f21,dd21,go_sem,simprocAttr,mu21,↓zAE,↓zAC,↓zAB,↓zAA,AV.underL,AV.under,hpin1,hu1,hu2,exOf]
    refine fun a3 w3 h3=>hK2 _ _ ?_
    clear hK2 K2
    refine wp_block ?_
    refine zGA (fun i a w=>(∀ j k,j < i→kids[j]?=some k→compG ins1 k=true)∧HSt I1 w1 (spOf s1) 65 [(52,Go.Ev.I i),(51,Go.Ev.I kids.length),(1,pinOf s1),(0,.pt (nodeL op set kids mn mx md n neg))] a w) kids.length ?_ ?_ ⟨fun j k h=>by omega,h3⟩
    ·rintro i a4 w4 hi ⟨hall,h4⟩
     obtain⟨k,hk⟩:∃ k,kids[i]?=some k:=⟨_,List.getElem?_eq_getElem hi⟩
     have hkm:=List.mem_of_getElem? hk
     refine wp_seq_k fun K3 hK3=>?_
     refine h4.W ok1 zA9 zAc hsp1 (mu:=pol1.muts 21) (m:=cfgOf pol1 21 0) ?_
     simp +contextual (disch:=omega) only[Tryd.f21,dd21,go_sem,simprocAttr,mu21,↓zAE,↓zAC,↓zAB,↓zAA,AV.underL,AV.under,hpin1,hu1,hu2,exOf]
     refine fun a5 w5 h5=>hK3 _ _ ?_
     clear hK3 K3
     refine wp_seq_k fun K3 hK3=>?_
     refine h5.W ok1 zA9 zAc hsp1 (mu:=pol1.muts 21) (m:=cfgOf pol1 21 0) ?_
     simp +contextual (disch:=omega) only[Tryd.f21,dd21,go_sem,simprocAttr,mu21,↓zAE,↓zAC,↓zAB,↓zAA,AV.underL,AV.under,hpin1,hu1,hu2,exOf]
     refine fun a6 w6 h6=>hK3 _ _ ?_
     clear hK3 K3
     refine wp_seq_k fun K3 hK3=>?_
     refine wp_block ?_
     refine wp_seq_k fun K4 hK4=>?_
     refine h6.W ok1 zA9 zAc hsp1 (mu:=pol1.muts 21) (m:=cfgOf pol1 21 0) ?_
     simp +contextual (disch:=omega) only[Tryd.f21,dd21,go_sem,simprocAttr,mu21,↓zAE,↓zAC,↓zAB,↓zAA,AV.underL,AV.under,hpin1,hu1,hu2,exOf]
     refine fun a7 w7 h7=>hK4 _ _ ?_
     clear hK4 K4
     refine wp_seq_k fun K4 hK4=>?_
     refine zBD ?_
     refine h7.ops ok1 hsp1 (mu:=pol1.muts 21) 7 ?_
     have hl8:=zA1 k
     simp +contextual (disch:=omega) only[Tryd.f21,dd21,go_sem,simprocAttr,mu21,↓zAE,↓zAC,↓zAB,↓zAA,AV.underL,AV.under,hpin1,hu1,hu2,exOf,hk,hl8]
     have huk:AV.underL 0 (reC k)=true:=zAD 0 _ (zA8 k)
     refine⟨huk,fun a8 w8 h8=>?_⟩
     refine h8.callB hs1 en49 (l:=[.pt (reC k),pinOf s1]) rfl (ih k hkm ins1 hlen s1) (fun a9 w9 h9=>?_)
     cases hck:compG ins1 k with
     | true=>
       rw[hck]at h9
       refine h9.ops ok1 hsp1 (mu:=pol1.muts 21) 1 ?_
       simp +contextual (disch:=omega) only[Tryd.f21,dd21,go_sem,simprocAttr,mu21,↓zAE,↓zAC,↓zAB,↓zAA,AV.underL,AV.under,hpin1,hu1,hu2,huk,exOf,hk,hl8]
       refine fun a10 w10 h10=>hK4 _ _ ?_
       clear hK4 K4
       refine h10.W ok1 zA9 zAc hsp1 (mu:=pol1.muts 21) (m:=cfgOf pol1 21 0) ?_
       simp +contextual (disch:=omega) only[Tryd.f21,dd21,go_sem,simprocAttr,mu21,↓zAE,↓zAC,↓zAB,↓zAA,AV.underL,AV.under,hpin1,hu1,hu2,huk,exOf]
       refine fun a11 w11 h11=>hK3 _ _ ?_
       clear hK3 K3
       refine h11.W ok1 zA9 zAc hsp1 (mu:=pol1.muts 21) (m:=cfgOf pol1 21 0) ?_
       have hJ:∀(j:Nat) (k:Re),j < i+1→kids[j]?=some k→compG ins1 k=true:=fun j k2 h1 h2=>by
        rcases Nat.lt_or_ge j i with h|h
        ·exact hall j k2 h h2
        ·obtain rfl:j=i:=by omega
         rw[hk]at h2;obtain rfl:=Option.some.inj h2
         exact hck
       generalize hJd:(∀(j:Nat) (k:Re),j < i+1→kids[j]?=some k→compG ins1 k=true)=J at hJ ⊢
       simp +contextual (disch:=omega) only[Tryd.f21,dd21,go_sem,simprocAttr,mu21,↓zAE,↓zAC,↓zAB,↓zAA,AV.underL,AV.under,hpin1,hu1,hu2,huk,exOf]
       exact fun a12 w12 h12=>⟨hJ,h12.sub (by iterate 9 refine .cons _ ?_
                                              exact .cons_cons _ (.cons_cons _ (.cons _ (.refl _))))⟩
     | false=>
       rw[hck]at h9
       refine h9.ops ok1 hsp1 (mu:=pol1.muts 21) 1 ?_
       simp +contextual (disch:=omega) only[Tryd.f21,dd21,go_sem,simprocAttr,mu21,↓zAE,↓zAC,↓zAB,↓zAA,AV.underL,AV.under,hpin1,hu1,hu2,huk,exOf,hk,hl8]
       refine fun a10 w10 h10=>hK4 _ _ ?_
       clear hK4 K4
       refine h10.W ok1 zA9 zAc hsp1 (mu:=pol1.muts 21) (m:=cfgOf pol1 21 0) ?_
       simp +contextual (disch:=omega) only[Tryd.f21,dd21,go_sem,simprocAttr,mu21,↓zAE,↓zAC,↓zAB,↓zAA,AV.underL,AV.under,hpin1,hu1,hu2,huk,exOf]
       refine fun a11 w11 h11=>?_
       obtain⟨g1,g2,g3⟩:=h11.done (d:=4) rfl
       exact hret a11 w11 (hfr.thenS g1 hle) g2 (by rw[g3,hcomp,zIL hkm hck])
    ·rintro a4 w4 ⟨hall,h4⟩
     refine wp_seq_k fun K3 hK3=>?_
     refine h4.W ok1 zA9 zAc hsp1 (mu:=pol1.muts 21) (m:=cfgOf pol1 21 0) ?_
     simp +contextual (disch:=omega) only[Tryd.f21,dd21,go_sem,simprocAttr,mu21,↓zAE,↓zAC,↓zAB,↓zAA,AV.underL,AV.under,hpin1,hu1,hu2,exOf]
     refine fun a5 w5 h5=>hK3 _ _ ?_
     clear hK3 K3
     refine wp_seq_k fun K3 hK3=>?_
     refine h5.W ok1 zA9 zAc hsp1 (mu:=pol1.muts 21) (m:=cfgOf pol1 21 0) ?_
     simp +contextual (disch:=omega) only[Tryd.f21,dd21,go_sem,simprocAttr,mu21,↓zAE,↓zAC,↓zAB,↓zAA,AV.underL,AV.under,hpin1,hu1,hu2,exOf]
     refine fun a6 w6 h6=>hK _ _ ?_
     clear hK3 K3 hK
     refine h6.W ok1 zA9 zAc hsp1 (mu:=pol1.muts 21) (m:=cfgOf pol1 21 0) ?_
     simp +contextual (disch:=omega) only[Tryd.f21,dd21,go_sem,simprocAttr,mu21,↓zAE,↓zAC,↓zAB,↓zAA,AV.underL,AV.under,hpin1,hu1,hu2,exOf]
     refine fun a7 w7 h7=>?_
     obtain⟨g1,g2,g3⟩:=h7.done (d:=4) rfl
     exact hret a7 w7 (hfr.thenS g1 hle) g2 (by rw[g3,hcomp,zJZ (fun i k h1 h2=>hall i k h1 h2)])
   clear hK
   refine wp_seq_k fun K2 hK2=>?_
   refine h1.W ok1 zA9 zAc hsp (mu:=pol1.muts 21) (m:=cfgOf pol1 21 0) ?_
   simp +contextual (disch:=omega) only[Tryd.f21,dd21,go_sem,simprocAttr,mu21,↓zAE,↓zAC,↓zAB,↓zAA,AV.underL,AV.under,hpin,hu1,hu2,exOf]
   refine fun a2 w2 h2=>hK2 _ _ ?_
   clear hK2 K2
   refine wp_block ?_
   by_cases h5:op=5
   ·subst h5
    refine wp_seq_k fun K2 hK2=>?_
    refine h2.W ok1 zA9 zAc hsp (mu:=pol1.muts 21) (m:=cfgOf pol1 21 0) ?_
    simp +contextual (disch:=omega) only[Tryd.f21,dd21,go_sem,simprocAttr,mu21,↓zAE,↓zAC,↓zAB,↓zAA,AV.underL,AV.under,hpin,hu1,hu2,exOf]
    refine fun a3 w3 h3=>hK2 _ _ ?_
    clear hK2 K2
    refine h3.cond (b:=false) rfl ?_
    rw[if_neg Bool.false_ne_true]
    refine wp_seq_k fun K2 hK2=>?_
    refine h3.W ok1 zA9 zAc hsp (mu:=pol1.muts 21) (m:=cfgOf pol1 21 0) ?_
    simp +contextual (disch:=omega) only[Tryd.f21,dd21,go_sem,simprocAttr,mu21,↓zAE,↓zAC,↓zAB,↓zAA,AV.underL,AV.under,hpin,hu1,hu2,exOf]
    refine fun a4 w4 h4=>hK2 _ _ ?_
    clear hK2 K2
    refine h4.cond (b:=false) rfl ?_
    rw[if_neg Bool.false_ne_true]
    refine wp_seq_k fun K2 hK2=>?_
    refine h4.W ok1 zA9 zAc hsp (mu:=pol1.muts 21) (m:=cfgOf pol1 21 0) ?_
    simp +contextual (disch:=omega) only[Tryd.f21,dd21,go_sem,simprocAttr,mu21,↓zAE,↓zAC,↓zAB,↓zAA,AV.underL,AV.under,hpin,hu1,hu2,exOf]
    refine fun a5 w5 h5=>hK2 _ _ ?_
    clear hK2 K2
    refine h5.cond (b:=true) rfl ?_
    rw[if_pos rfl]
    refine wp_seq_k fun K2 hK2=>?_
    refine wp_seq_k fun K3 hK3=>?_
    refine zBD ?_
    refine h5.ops ok1 hsp (mu:=pol1.muts 21) 1 ?_
    simp +contextual (disch:=omega) only[Tryd.f21,dd21,go_sem,simprocAttr,mu21,↓zAE,↓zAC,↓zAB,↓zAA,AV.underL,AV.under,hpin,hu1,hu2,exOf]
    refine fun a6 w6 h6=>?_
    have h6':HSt I w (spOf s) 65 [(34,.sl false (ins.map Go.Ev.I)),(32,.bool true),(1,pinOf s),(0,.pt (nodeL 5 set kids mn mx md n neg))] a6 w6:=h6.seen hs (d:=34) rfl
    clear h6
    have hu3:AV.underL 0 (ins.map Go.Ev.I)=true:=zAD 0 _ (zAF ins)
    refine h6'.ops ok1 hsp (mu:=pol1.muts 21) 5 ?_
    by_cases hm:n∈ins
    ·rw[decide_eq_true hm]at h106
     simp +contextual (disch:=omega) only[Tryd.f21,dd21,go_sem,simprocAttr,mu21,↓zAE,↓zAC,↓zAB,↓zAA,AV.underL,AV.under,hpin,hu1,hu2,hu3,h106,exOf]
     refine fun a7 w7 h7=>hK3 _ _ ?_
     clear hK3 K3
     refine h7.W ok1 zA9 zAc hsp (mu:=pol1.muts 21) (m:=cfgOf pol1 21 0) ?_
     simp +contextual (disch:=omega) only[Tryd.f21,dd21,go_sem,simprocAttr,mu21,↓zAE,↓zAC,↓zAB,↓zAA,AV.underL,AV.under,hpin,hu1,hu2,hu3,exOf]
     refine fun a8 w8 h8=>?_
     obtain⟨g1,g2,g3⟩:=h8.done (d:=4) rfl
     exact hret a8 w8 g1 g2 (by rw[g3,compG,if_neg (by omega),if_pos rfl,if_pos hm])
    ·rw[decide_eq_false hm]at h106
     simp +contextual (disch:=omega) only[Tryd.f21,dd21,go_sem,simprocAttr,mu21,↓zAE,↓zAC,↓zAB,↓zAA,AV.underL,AV.under,hpin,hu1,hu2,hu3,h106,exOf]
     refine fun a7 w7 h7=>hK3 _ _ ?_
     clear hK3 K3
     refine h7.W ok1 zA9 zAc hsp (mu:=pol1.muts 21) (m:=cfgOf pol1 21 0) ?_
     simp +contextual (disch:=omega) only[Tryd.f21,dd21,go_sem,simprocAttr,mu21,↓zAE,↓zAC,↓zAB,↓zAA,AV.underL,AV.under,hpin,hu1,hu2,hu3,exOf]
     refine fun a8 w8 h8=>hK2 _ _ ?_
     clear hK2 K2
     refine zBD ?_
     refine h8.ops ok1 hsp (mu:=pol1.muts 21) 6 ?_
     simp +contextual (disch:=omega) only[Tryd.f21,dd21,go_sem,simprocAttr,mu21,↓zAE,↓zAC,↓zAB,↓zAA,AV.underL,AV.under,hpin,hu1,hu2,hu3,exOf]
     refine fun a9 w9 h9=>?_
     refine h9.append1 (e:=3) (by_:=8) (ze:=.int .i64 0) (tt:=true) (m:=n) (by kernel_rfl) (by kernel_rfl) (by kernel_rfl) (by kernel_rfl) (by kernel_rfl) rfl hs rfl rfl (zAU (by omega) (by omega)) ?_
     intro I1 w1 u a10 hs1 hfr hle hgr h10
     have hpin1:=(hs1.pin (J:=I) (L:=[])).2.1
     have hsp1:∀ k o,spOf u=some (k,o)→k < w1.heap.size:=fun k o e=>by
      obtain⟨cs,T,e⟩:=hs1.has k o e
      exact(Array.getElem?_eq_some_iff.1 e).1
     refine h10.ops ok1 hsp1 (mu:=pol1.muts 21) 1 ?_
     simp +contextual (disch:=omega) only[Tryd.f21,dd21,go_sem,simprocAttr,mu21,↓zAE,↓zAC,↓zAB,↓zAA,AV.underL,AV.under,hpin,hpin1,hu1,hu2,hu3,exOf]
     refine fun a11 w11 h11=>hrest I1 w1 u (ins++[n]) a11 w11 _ hs1 hfr hle h11 ?_ (by simp) (by rw[compG,if_neg (by omega),if_pos rfl,if_neg hm])
     iterate 14 refine .cons _ ?_
     exact .refl _
   ·have hgo:¬(op=4∧(md=2∨nullHd kids=true))→¬(5 < op∧op≠11)→∀ t,List.Sublist [(1,pinOf s),(0,AV.pt (nodeL op set kids mn mx md n neg))] t→∀ a' w',HSt I w (spOf s) 65 t a' w'→K a' w':=fun e1 e2 t ht a' w' h=>
     hrest I w s ins a' w' t hs (.refl hs.has) (SpLe.self _ _) h ht (by omega) (by rw[compG,if_neg e1,if_neg h5,if_neg e2])
    have hno:(op=4∧(md=2∨nullHd kids=true))∨(5 < op∧op≠11)→∀ t,look t 4=some (.bool false)→∀ a' w',HSt I w (spOf s) 65 t a' w'→Q .ret a' w':=fun e t ht a' w' h=>by
     obtain⟨g1,g2,g3⟩:=h.done ht
     refine hret a' w' g1 g2 ?_
     rw[g3,compG]
     rcases e with e|e
     ·rw[if_pos e]
     ·rw[if_neg (by omega),if_neg h5,if_pos e]
    have sub1:∀ x y:Nat×AV,List.Sublist [(1,pinOf s),(0,AV.pt (nodeL op set kids mn mx md n neg))] [x,y,(1,pinOf s),(0,.pt (nodeL op set kids mn mx md n neg))]:=fun x y=>.cons _ (.cons _ (.refl _))
    by_cases h4:op=4
    ·subst h4
     have hk1:kids.length=1:=by simpa [kidsG] using hkd
     match kids,hk1 with
     | [k],_=>
       have h105k:=h105 k (List.mem_singleton.2 rfl)
       have hl8:=zA1 k
       have ht8:=zBS k
       cases hn:nullG k with
       | true=>
         rw[hn]at h105k
         have hnn:nullHd [k]=true:=hn
         refine h2.W ok1 zA9 zAc hsp (mu:=pol1.muts 21) (m:=cfgOf pol1 21 0) ?_
         simp +contextual (disch:=omega) only[Tryd.f21,dd21,go_sem,simprocAttr,mu21,↓zAE,↓zAC,↓zAB,↓zAA,AV.underL,AV.under,hpin,hu1,hu2,exOf,h105k,hl8,ht8]
         exact⟨fun _=>hno (.inl ⟨rfl,.inr hnn⟩) _ rfl,fun _=>hno (.inl ⟨rfl,.inr hnn⟩) _ rfl⟩
       | false=>
         rw[hn]at h105k
         have hnn:¬ nullHd [k]=true:=by rw[show nullHd [k]=false from hn];exact Bool.false_ne_true
         refine h2.W ok1 zA9 zAc hsp (mu:=pol1.muts 21) (m:=cfgOf pol1 21 0) ?_
         simp +contextual (disch:=omega) only[Tryd.f21,dd21,go_sem,simprocAttr,mu21,↓zAE,↓zAC,↓zAB,↓zAA,AV.underL,AV.under,hpin,hu1,hu2,exOf,h105k,hl8,ht8]
         refine⟨fun e=>hno (.inl ⟨rfl,.inl e⟩) _ rfl,fun e=>⟨zAD 0 _ (zA8 k),hgo (fun h=>h.2.elim e hnn) (by omega) _ (.cons _ (.refl _))⟩⟩
    ·refine h2.W ok1 zA9 zAc hsp (mu:=pol1.muts 21) (m:=cfgOf pol1 21 0) ?_
     simp +contextual (disch:=omega) only[Tryd.f21,dd21,go_sem,simprocAttr,mu21,↓zAE,↓zAC,↓zAB,↓zAA,AV.underL,AV.under,hpin,hu1,hu2,exOf,h4,h5]
     have sub1:∀ x y:Nat×AV,List.Sublist [(1,pinOf s),(0,AV.pt (nodeL op set kids mn mx md n neg))] [x,y,(1,pinOf s),(0,.pt (nodeL op set kids mn mx md n neg))]:=fun x y=>.cons _ (.cons _ (.refl _))
     refine⟨fun e=>?_,fun e0=>⟨fun e=>?_,fun e1=>⟨fun e=>?_,fun e11=>⟨fun e=>?_,fun e2=>⟨fun e=>?_,fun e3=>hno (.inr ⟨by omega,e11⟩) _ rfl⟩⟩⟩⟩⟩
     all_goals subst e;exact hgo (by omega) (by omega) _ (.cons _ (.cons _ (.refl _)))
theorem zK7 (caps top:Int) (re:Re) (hN:re.wt≤1000000) (hw:wholeG caps top re=true):CallSound Tryd.prog 21 [.pt (reC re),.sl true []] [] (.bool (compG [] re)) []:=by
 refine⟨en49,fun B0 w0 w I L vs hi hus=>?_⟩
 have hL:L=[]:=List.length_eq_zero_iff.1 hi.len
 subst hL
 have h0:=hus.2 0 _ rfl
 have h1:=hus.2 1 _ rfl
 generalize hs:vs.getD 1 undef=s at h1
 have hsl:SliceOk I w s []∧spOf s=none:=by
  cases h1 with
  | nilsl t=>exact⟨.inl ⟨rfl,rfl⟩,rfl⟩
  | sl t xs b o c k f hc ht hk hI hR=>
    have:c=0:=ht rfl
    subst this
    exact⟨.inr ⟨b,o,0,rfl,Nat.le_refl _,fun h=>absurd h (by simp),fun i x h=>by simp at h,fun h=>absurd h (by simp)⟩,rfl⟩
 obtain⟨hs1,hs2⟩:=hsl
 have hr:RepL I [] [.pt (reC re),pinOf s] vs:=by
  refine⟨hus.1,fun i y hy=>?_⟩
  match i,hy with
  | 0,hy=>simp at hy;subst hy;exact h0
  | 1,hy=>simp at hy;subst hy;rw[hs];exact(hs1.pin (J:=I) (L:=[])).1
 refine(f49a caps top re.wt re [] (Nat.le_refl _) hN (by simp;omega) hw s I w vs hi.imm hs1 hr).mono ?_
 rintro e w' ⟨rfl,hf⟩
 have hv:=hf.val hs1.free hi.imm
 rw[hs2]at hf
 refine⟨.bool _,I,[],rfl,⟨hi.below.trans ⟨⟨hf.os,hf.tape,hf.output,hf.size,fun k hk=>hf.same k (Nat.lt_of_lt_of_le hk hi.base) (fun o h=>by cases h)⟩,hf.drawn⟩,Nat.le_trans hi.base hf.size,rfl,fun _ _ _ h=>by simp at h,fun _ _ _ _ h=>by simp at h,hv,hi.old⟩,.refl _ _,.bool _⟩
theorem f49 (caps top:Int) (re:Re) (hN:re.wt≤1000000) (hw:wholeG caps top re=true) (H:List MB):call Tryd.prog pol1 21 [.pt (reC re),.sl true []] H=some (.bool (compG [] re),H):=by
 have he:=zKm (zK7 caps top re hN hw)
 have hfz:frzArgs pol1 21 0 [.pt (reC re),.sl true []] H=some ([.pt (reC re),.sl true []],H):=zAa H _ 0 (by
  have:AV.plain (.pt (reC re))=true:=by simp[AV.plain,zA8]
  simp only[mixOk,this,Bool.or_true,Bool.true_and];rfl)
 have hu:AV.underL 0 [.pt (reC re),.sl true []]=true:=by simp[AV.underL,AV.under,zAD,zA8]
 rw[zAw]
 unfold evStep
 rw[if_pos (show pol1.pure 21=true from rfl),hfz]
 simp only[hu,if_true]
 unfold evBody
 rw[show pol1.ext 21=some ext49 from rfl]
 simp only[he]
 rfl
end
section
open Go.Proofs Go.RowKit Go.IntWalk
set_option maxRecDepth 100000
set_option maxHeartbeats 8000000
theorem f14 (p:Pat) (hw:p.re.wt≤1000000) (H:List MB):call Tryd.prog pol1 9 [patAV p] H=some (.tup [prgAV (compP p).1,I (compP p).2],H):=by
 have h48:=f48 p hw
 obtain⟨re,caps,runes⟩:=p
 simp only at hw
 have hl8:=zA1 re
 have hpl:=zCV ⟨re,caps,runes⟩
 have hget8:(reC re++[I caps,.bool runes])[8]?=some (I caps):=by rw[List.getElem?_append_right (by omega),hl8];rfl
 have hget9:(reC re++[I caps,.bool runes])[9]?=some (.bool runes):=by rw[List.getElem?_append_right (by omega),hl8];rfl
 have hdr:∀ l,(reC re++l).drop 8=l:=fun l=>by rw[List.drop_append_of_le_length (by omega),List.drop_of_length_le (by omega)];rfl
 have hdr9:(reC re++[I caps,.bool runes]).drop 9=[.bool runes]:=by rw[show (9:Nat)=8+1 from rfl,← List.drop_drop,hdr];rfl
 have htk8:∀ l,List.take 8 (reC re++l)=reC re:=fun l=>by
  rw[List.take_append_of_le_length (by omega)];exact List.take_of_length_le (by omega)
 have hall:=zJ2 re
 have hz:∀ b,fz (.rf 0 1 0 0) [.row 10 [.agg (reC re++[I caps,.bool runes])] 0,b]=some (.pt (reC re++[I caps,.bool runes]),[.row 10 [.agg (reC re++[I caps,.bool runes])] 1,b]):=fun b=>
  zKk (x:=.agg (reC re++[I caps,.bool runes])) (k:=10) (z:=0) rfl rfl rfl hpl
 have ht10:List.take 10 (patC ⟨re,caps,runes⟩)=patC ⟨re,caps,runes⟩:=List.take_of_length_le (by simp[hl8])
 have hlen:(reC re).length+(0+1+1)=10:=by omega
 have hpl2:∀ x:Prg×Int,AV.plain (.tup [prgAV x.1,I x.2])=true:=fun x=>by simp[AV.plain,AV.plainL,zAH]
 refine zAS Tryd.func9 rfl rfl rfl rfl rfl rfl (fun _=>rfl) (by simp[AV.plainL,AV.plain];exact zCV _) (hpl2 _) ?_ H
 unfold compP
 by_cases hv:validP ⟨re,caps,runes⟩=0
 ·rw[if_pos hv]
  obtain⟨hsz,hdp,hc0,hc9,hwg⟩:=zHx hv
  simp only at hc0 hc9 hwg
  rw[hv]at h48
  have h49:=f49 _ _ re hw hwg
  have h50:=f50 _ _ re.wt re (Nat.le_refl _) hw hwg
  cases hc:compG [] re with
  | false=>
    rw[hc]at h49
    rw[if_neg Bool.false_ne_true]
    simp +contextual (disch:=omega) only[Tryd.f9,dd9,go_sem,simprocAttr,evAppend,mu9,↓zAE,↓zAC,↓zAB,↓zAA,h48,h49,hz,ht10,hl8,hlen,hget8,hget9,hall,htk8,List.all_append,lookD,look]
    exact⟨_,rfl⟩
  | true=>
    rw[hc]at h49
    rw[if_pos rfl]
    by_cases hL:lenG re+1≤8192
    ·rw[if_pos hL]
     have hg:GoodC caps (topI runes) re:=⟨hwg,zF3 re [] hc⟩
     have h51:=f51 caps (topI runes) (by omega) re hw hg (by omega)
     have hlc:=zAm caps (topI runes) re 0 hg
     rw[Nat.min_eq_left (by omega)]at h50
     generalize codeG re 0=C at *
     have hap:=fun b0 b1 x=>zIz (H:=[b0,b1,.row 5 (C.map insAV) 0]) (i:=2) (n:=lenG re) (t:=true) (y:=.agg [I 0,I 0,I 0,I 0,.sl true x]) rfl (by rw[List.length_map];exact hlc) rfl (Nat.zero_le _) (by omega)
     simp +contextual (disch:=omega) only[Tryd.f9,dd9,go_sem,simprocAttr,mu9,↓zAE,↓zAC,↓zAB,↓zAA,h48,h49,h50,h51,hz,ht10,hl8,hlen,hget8,hget9,hall,htk8,hap,List.all_append,lookD,look]
     repeat' (first|intro _|apply And.intro|(unfold dOk;kernel_rfl)|exact St.beq_refl _|(show altO _ _ _ _=true;kernel_rfl)|(show (_ || _)=true;kernel_rfl)|(show (_ && _)=true;kernel_rfl))
     have hk:∀ j H,fzL j (C.map insAV++[.agg [I 0,I 0,I 0,I 0,.sl true []]]) H=some ((C++[(⟨0,0,0,0,[]⟩:Ins)]).map insAV,H):=fun j H=>by
      rw[List.map_append]
      exact((zGR C).append (.one fun H=>rfl)).fz H
     exact zLM caps runes (by simp[hlc]) hk rfl
    ·rw[if_neg hL]
     simp +contextual (disch:=omega) only[Tryd.f9,dd9,go_sem,simprocAttr,evAppend,mu9,↓zAE,↓zAC,↓zAB,↓zAA,h48,h49,h50,hz,ht10,hl8,hlen,hget8,hget9,hall,htk8,List.all_append,lookD,look]
     exact⟨_,rfl⟩
 ·rw[if_neg hv]
  simp +contextual (disch:=omega) only[Tryd.f9,dd9,go_sem,simprocAttr,evAppend,mu9,↓zAE,↓zAC,↓zAB,↓zAA,h48,hv,hz,ht10,hl8,hlen,hget8,hget9,hall,htk8,List.all_append,lookD,look]
  exact⟨_,rfl⟩
end
end Go.Ev
namespace Go.Ev
open Go.Proofs Go.RowKit Go.IntWalk
set_option maxRecDepth 100000
set_option maxHeartbeats 4000000
def aroundI (n m:Int):Int:=(if n < 0 then - (n+1) else n) % m
def In64 (n:Int):Prop:=-9223372036854775808≤n∧n≤9223372036854775807
theorem zHq {n m:Int} (h:0 < m):0≤aroundI n m∧aroundI n m < m:=by
 unfold aroundI
 have:0≤(if n < 0 then - (n+1) else n):=by split<;>omega
 exact⟨Int.emod_nonneg _ (by omega),Int.emod_lt_of_pos _ h⟩
theorem f12 (n m:Int) (hn:In64 n) (hm:m≠0) (H:List MB):call Tryd.prog pol1 13 [.int .i64 n,.int .i64 m] H=some (I (aroundI n m),H):=by
 obtain⟨h1,h2⟩:=hn
 refine zAS Tryd.func13 rfl rfl rfl rfl rfl rfl (fun _=>rfl) (by simp[AV.plain,AV.plainL,zAF,zAG,zAH,zAI]) (by simp[AV.plain,AV.plainL,zAF,zAG,zAH,zAI]) ?_ H
 simp +contextual (disch:=omega) only[Tryd.f13,dd13,ty3,ty4,↓reduceIte,eq_self,zAT,zBA,zBi,zBQ,zHu,zCO,zEe,zEf,zDA,zHv,zEc,zEd,zC8,zC9,zDB,zA3,zBP,zA4,zEg,zDC,zCP,zEi,zDE,zCQ,guardV,zAq,zAr,zAk,zCJ,zCK,footprint,footprint0,fineF,zBF,zBa,zBG,zCA,zCB,zEV,zEW,zC5,zCv,zCE,zCt,zCu,zCw,zCz,zCG,zCx,zCy,zCF,zCs,zCD,zCq,zCr,zCC,evOp,evBuiltin,evCall,cfn,yldF,evLen,evAppend,zBN,zBe,List.length_cons,List.length_nil,List.reduceReplicate,Nat.reduceAdd,Nat.reduceSub,List.cons_append,List.nil_append,List.append_nil,if_false,if_true,Bool.false_eq_true,Bool.true_eq_false,reduceCtorEq,Option.map_some,Option.map_none,List.map_cons,List.map_nil,evBinOp,evBin,evUn,zBn,zAl,zAd,zAb,zBJ,zBI,zBH,zCM,zBf,List.getElem?_cons_zero,List.getElem?_cons_succ,evResults,evResult,packRes,zBb,zB7,cellsAt,mkVal,evFieldAddr,evField,evIndexAddr,evPart,evStore,evBuild,evBuildSlice,fillC,fillE,evSlice,evMakeSlice,evConvert,getRow,AV.cells,List.head?_cons,List.drop_zero,List.drop_succ_cons,List.take_zero,List.take_succ_cons,List.drop_nil,List.take_nil,List.all_cons,List.all_nil,AV.ok,Bool.and_self,Bool.and_true,Bool.true_and,and_self,and_true,true_and,Nat.reduceLeDiff,Nat.reduceMul,Nat.reduceLT,Nat.reduceEqDiff,Nat.zero_add,Nat.add_zero,setCells,splice,pairsOk,pairsX,zBk,zBj,zEb,zEh,zDD,FP.apart,zAv,sameAt_refl,Bool.or_true,Bool.true_or,Bool.or_false,srcElems,elemsOf,mutDst,indDst,thwDst,evLenH,evMapUpd,evLookup,getMp,keyOk,resOk,strOf,zAz,zA0,zBK,List.length_map,List.getElem?_map,Int.toNat_natCast,Int.reduceBNe,Int.reduceBEq,decide_true,decide_false,Bool.not_true,Bool.not_false,List.set,zG3,zG2,zG1,zG0,zGz,zCI,look,zBd,zBM,zBc,zC2,ins,zCo,upd,zB8,rem1,dropT,zBh,initT,zEZ,zEa,zEY,zCN,zBl,act1,zB4,updT,frzB,mu13,List.contains_nil,List.contains_cons,Nat.reduceBEq,Bool.or_self,zJQ,zJR,zJS,zJT,zJU,zJV,zJW,zJX,zJh,zJi,zJf,zJg,lt_T,le_T,zJF,zJG,↓zAE,↓zAC,↓zAB,↓zAA,i64_in,i64_quo,rem_in,Int.reduceToNat]
 unfold aroundI
 refine⟨fun h=>⟨hm,fzEq rfl ?_⟩,fun h=>⟨hm,fzEq rfl ?_⟩⟩
 ·rw[if_pos h];try (congr 2;omega)
 ·rw[if_neg h]
end Go.Ev
namespace Go.Ev
set_option linter.unusedSectionVars false
def enc1 (s:Nat):List Nat:=
 if s < 128 then [s]
 else if s < 2048 then [192+s / 64,128+s % 64]
 else if s < 65536 then [224+s / 4096,128+s / 64 % 64,128+s % 64]
 else [240+s / 262144,128+s / 4096 % 64,128+s / 64 % 64,128+s % 64]
def SymOk (s:Nat):Prop:=s < 55296∨(57343 < s∧s≤1114111)
set_option maxRecDepth 100000 in
theorem zMX:∀ c:Nat,c < 192→128≤c→IntKind.u8.wrap (((BitVec.ofInt 8 (c:Int) &&& BitVec.ofInt 8 63).toNat:Nat):Int)=((c - 128:Nat):Int):=by decide
theorem or6 (x c:Nat) (hx:x < 1099511627776) (hc:c < 64):IntKind.i64.wrap (((BitVec.ofInt 64 ((x:Int) * 64) ||| BitVec.ofInt 64 (c:Int)).toNat:Nat):Int)=((x * 64+c:Nat):Int):=by
 have h1:BitVec.ofInt 64 ((x:Int) * 64)=BitVec.ofNat 64 (x * 64):=by
  rw[← BitVec.ofInt_natCast]
  simp
 have h2:BitVec.ofInt 64 (c:Int)=BitVec.ofNat 64 c:=BitVec.ofInt_natCast ..
 have h3:(BitVec.ofNat 64 (x * 64) ||| BitVec.ofNat 64 c).toNat=x * 64+c:=by
  rw[BitVec.toNat_or,BitVec.toNat_ofNat,BitVec.toNat_ofNat,Nat.mod_eq_of_lt (by omega),Nat.mod_eq_of_lt (by omega)]
  have:=Nat.shiftLeft_add_eq_or_of_lt (i:=6) (b:=c) (by omega) x
  rw[Nat.shiftLeft_eq]at this
  rw[show (2:Nat) ^ 6=64 from rfl]at this
  omega
 rw[h1,h2,h3,IntKind.wrap_i64]
 omega
theorem zGe (s:Nat):(enc1 s).length=if s < 128 then 1 else if s < 2048 then 2 else if s < 65536 then 3 else 4:=by
 unfold enc1
 repeat' split
 all_goals rfl
theorem zKQ (s:Nat) (hs:SymOk s):∀ b∈enc1 s,b < 256:=by
 unfold SymOk at hs
 unfold enc1
 repeat' split
 all_goals (intro b hb;simp at hb)
 ·omega
 ·rcases hb with rfl|rfl<;>omega
 ·rcases hb with rfl|rfl|rfl<;>omega
 ·rcases hb with rfl|rfl|rfl|rfl<;>omega
end Go.Ev
namespace Go.Ev
attribute [local go_sem] evBuild splice List.length_append List.map_append tySzE List.head?_drop Nat.mul_one zAN zAQ zAL zAO zAP zAU
section
open Go.Proofs Go.RowKit Go.IntWalk
set_option maxRecDepth 100000
set_option maxHeartbeats 4000000
abbrev B8 (n:Int):AV:=.int .u8 n
abbrev N8 (n:Nat):AV:=.int .u8 (n:Int)
abbrev NI (n:Nat):AV:=.int .i64 (n:Int)
theorem zFZ {a:Int} (h0:0≤a) (h:a < 256):IntKind.u8.wrap a=a:=by
 simp[IntKind.wrap,IntKind.signed,IntKind.bits];omega
theorem zAM (l:List Nat):AV.plainL (l.map N8)=true:=by
 induction l with
 | nil=>rfl
 | cons a l ih=>simp[AV.plainL,ih];rfl
theorem zAh (l:List Nat):AV.plainL (l.map NI)=true:=by
 induction l with
 | nil=>rfl
 | cons a l ih=>simp[AV.plainL,ih];rfl
theorem f32 (s:Nat) (hs:SymOk s) (H:List MB):call Tryd.prog pol1 32 [NI s,.bool true] H=some (.bool true,H):=by
 unfold SymOk at hs
 refine zAS Tryd.func32 rfl rfl rfl rfl rfl rfl (fun _=>rfl) (by simp[AV.plain,AV.plainL,zAF,zAG,zAH,zAI]) (by simp[AV.plain,AV.plainL,zAF,zAG,zAH,zAI]) ?_ H
 rcases hs with h|⟨h1,h2⟩
 ·simp +contextual (disch:=omega) only[Tryd.f32,dd32,go_sem,simprocAttr,evAppend,mu32,↓zAE,↓zAC,↓zAB,↓zAA,h]
  exact⟨_,rfl⟩
 ·simp +contextual (disch:=omega) only[Tryd.f32,dd32,go_sem,simprocAttr,evAppend,mu32,↓zAE,↓zAC,↓zAB,↓zAA,h1,h2]
  exact⟨_,rfl⟩
theorem f17 (t:List Nat) (ht:∀ s∈t,SymOk s) (hl:t.length≤1000) (H:List MB):call Tryd.prog pol1 17 [.sl false (t.map NI),.bool true] H=some (I 0,H):=by
 refine zAS Tryd.func17 rfl rfl rfl rfl rfl rfl (fun _=>rfl) (by simp[AV.plain,AV.plainL,zAF,zAh,zAM]) (by simp[AV.plain,AV.plainL,zAF,zAh,zAM]) ?_ H
 simp +contextual (disch:=omega) only[Tryd.f17,dd17,go_sem,simprocAttr,evAppend,mu17,↓zAE,↓zAC,↓zAB,↓zAA]
 refine zAY (M:=(mskOf (pol1.mask 17) (pol1.gc 17) (pol1.acts 17) 0 4)) rfl t.length (fun i=>(⟨24,[(5,I i),(1,.bool true),(0,.sl false (t.map NI))],[]⟩:St)) (fun i=>True) ?_ ?_ trivial _ (by first|rfl|(simp[keepT,AV.underL,AV.under,MB.under,zAD,zAK,zAJ,zAF,zAG,zAH,zAI,-List.map_take,-List.map_replicate,-List.map_set];done))
 ·intro i hi _
  obtain⟨p,hp⟩:∃ p,t[i]?=some p:=⟨_,List.getElem?_eq_getElem (by omega)⟩
  have h32:=f32 p (ht p (List.mem_of_getElem? hp))
  simp +contextual (disch:=omega) only[Tryd.f17,dd17,go_sem,simprocAttr,evAppend,mu17,↓zAE,↓zAC,↓zAB,↓zAA,hp,h32]
  exact(by first|rfl|(simp[keepT,AV.underL,AV.under,MB.under,zAD,zAK,zAJ,zAF,zAG,zAH,zAI,-List.map_take,-List.map_replicate,-List.map_set];done))
 ·intro _
  simp +contextual (disch:=omega) only[Tryd.f17,dd17,go_sem,simprocAttr,evAppend,mu17,↓zAE,↓zAC,↓zAB,↓zAA]
  exact⟨_,rfl⟩
theorem f18 (s:Nat) (hs:SymOk s) (H:List MB):call Tryd.prog pol1 18 [NI s,.bool true] H=some (.sl false ((enc1 s).map N8),H):=by
 unfold SymOk at hs
 refine zAS Tryd.func18 rfl rfl rfl rfl rfl rfl (fun _=>rfl) (by simp[AV.plain,AV.plainL,zAF,zAh,zAM]) (by simp[AV.plain,AV.plainL,zAF,zAh,zAM]) ?_ H
 by_cases h1:s < 128
 ·have e:enc1 s=[s]:=by simp[enc1,h1]
  have w1:IntKind.u8.wrap (s:Int)=s:=zFZ (by omega) (by omega)
  rw[e]
  simp +contextual (disch:=omega) only[Tryd.f18,dd18,go_sem,simprocAttr,evAppend,mu18,↓zAE,↓zAC,↓zAB,↓zAA,h1,w1]
  exact⟨_,rfl⟩
 by_cases h2:s < 2048
 ·have e:enc1 s=[192+s / 64,128+s % 64]:=by simp[enc1,h1,h2]
  have w1:IntKind.u8.wrap (192+(s:Int) / 64)=192+(s:Int) / 64:=zFZ (by omega) (by omega)
  have w2:IntKind.u8.wrap (128+(s:Int) % 64)=128+(s:Int) % 64:=zFZ (by omega) (by omega)
  rw[e]
  simp +contextual (disch:=omega) only[Tryd.f18,dd18,go_sem,simprocAttr,evAppend,mu18,↓zAE,↓zAC,↓zAB,↓zAA,h1,h2,w1,w2]
  exact⟨_,rfl⟩
 by_cases h3:s < 65536
 ·have e:enc1 s=[224+s / 4096,128+s / 64 % 64,128+s % 64]:=by simp[enc1,h1,h2,h3]
  have w1:IntKind.u8.wrap (224+(s:Int) / 4096)=224+(s:Int) / 4096:=zFZ (by omega) (by omega)
  have w2:IntKind.u8.wrap (128+(s:Int) / 64 % 64)=128+(s:Int) / 64 % 64:=zFZ (by omega) (by omega)
  have w3:IntKind.u8.wrap (128+(s:Int) % 64)=128+(s:Int) % 64:=zFZ (by omega) (by omega)
  rw[e]
  simp +contextual (disch:=omega) only[Tryd.f18,dd18,go_sem,simprocAttr,evAppend,mu18,↓zAE,↓zAC,↓zAB,↓zAA,h1,h2,h3,w1,w2,w3]
  exact⟨_,rfl⟩
 ·have e:enc1 s=[240+s / 262144,128+s / 4096 % 64,128+s / 64 % 64,128+s % 64]:=by simp[enc1,h1,h2,h3]
  have w1:IntKind.u8.wrap (240+(s:Int) / 262144)=240+(s:Int) / 262144:=zFZ (by omega) (by omega)
  have w2:IntKind.u8.wrap (128+(s:Int) / 4096 % 64)=128+(s:Int) / 4096 % 64:=zFZ (by omega) (by omega)
  have w3:IntKind.u8.wrap (128+(s:Int) / 64 % 64)=128+(s:Int) / 64 % 64:=zFZ (by omega) (by omega)
  have w4:IntKind.u8.wrap (128+(s:Int) % 64)=128+(s:Int) % 64:=zFZ (by omega) (by omega)
  rw[e]
  simp +contextual (disch:=omega) only[Tryd.f18,dd18,go_sem,simprocAttr,evAppend,mu18,↓zAE,↓zAC,↓zAB,↓zAA,h1,h2,h3,w1,w2,w3,w4]
  exact⟨_,rfl⟩
def encT (t:List Nat):List Nat:=t.flatMap enc1
theorem zIx (t:List Nat):(encT t).length≤4 * t.length:=by
 induction t with
 | nil=>simp[encT]
 | cons a t ih=>
   have:encT (a::t)=enc1 a++encT t:=rfl
   rw[this,List.length_append,List.length_cons,zGe]
   split
   ·omega
   split
   ·omega
   split<;>omega
theorem zHj (t:List Nat) (a:Nat):encT (t++[a])=encT t++enc1 a:=by simp[encT]
theorem f7 (t:List Nat) (ht:∀ s∈t,SymOk s) (hl:t.length≤1000) (H:List MB):call Tryd.prog pol1 7 [.sl false (t.map NI),.bool true] H=some (.tup [.sl false ((encT t).map N8),I 0],H):=by
 have h17:=f17 t ht hl
 refine zAS Tryd.func7 rfl rfl rfl rfl rfl rfl (fun _=>rfl) (by simp[AV.plain,AV.plainL,zAF,zAh,zAM]) (by simp[AV.plain,AV.plainL,zAF,zAh,zAM]) ?_ H
 simp +contextual (disch:=omega) only[Tryd.f7,dd7,go_sem,simprocAttr,evAppend,mu7,↓zAE,↓zAC,↓zAB,↓zAA,h17]
 refine zAY (M:=(mskOf (pol1.mask 7) (pol1.gc 7) (pol1.acts 7) 0 6)) rfl t.length (fun i=>(⟨30,[(8,I i),(7,.ms 0 1 (encT (t.take i)).length 0 (encT (t.take i)).length),(1,.bool true),(0,.sl false (t.map NI))],[.row 1 ((encT (t.take i)).map N8) 0]⟩:St)) (fun i=>True) ?_ ?_ trivial _ (by first|rfl|(refine zAV (n:=1) (m:=⟨some [8,7,1,0],some 1,[]⟩) rfl rfl ?_ ?_ ?_<;>first|rfl|(simp[keepT,AV.underL,AV.under,MB.under,zAD,zAK,zAJ,zAF,zAG,zAH,zAI,-List.map_take,-List.map_replicate,-List.map_set,zAM,zAh,encT];done)|(simp[keepT,AV.underL,AV.under,MB.under,zAD,zAK,zAJ,zAF,zAG,zAH,zAI,-List.map_take,-List.map_replicate,-List.map_set,zAM,zAh,encT];omega)))
 ·intro i hi _
  obtain⟨p,hp⟩:∃ p,t[i]?=some p:=⟨_,List.getElem?_eq_getElem (by omega)⟩
  have h18:=f18 p (ht p (List.mem_of_getElem? hp))
  have hb:=zIx (t.take i)
  have hb2:(t.take i).length≤1000:=by simp;omega
  have hs:encT (t.take (i+1))=encT (t.take i)++enc1 p:=by rw[List.take_add_one,hp];exact zHj _ _
  rw[hs]
  have he4:(enc1 p).length≤4∧0 < (enc1 p).length:=by rw[zGe];split<;>(try split)<;>(try split)<;>omega
  generalize encT (t.take i)=xs at *
  have hroom:roomFor (xs.length+((enc1 p).map N8).length) 1=true:=zAU (by rw[List.length_map];omega) (by omega)
  have ha:=fun b=>zAs (P:=Tryd.prog) (H:=[.row 1 (xs.map N8) 0]) (sT:=30) (xT:=30) (x:=.sl b ((enc1 p).map N8)) (ys:=(enc1 p).map N8) (els:=xs.map N8) (id:=0) (n:=xs.length) (e:=5) (by kernel_rfl) (by kernel_rfl) (k:=1) (by kernel_rfl) (by_:=1) (by kernel_rfl) (ze:=B8 0) (by kernel_rfl) rfl (by omega) rfl (by simp[AV.cells,AV.ok]) rfl (by simp) (Nat.zero_le _) hroom
  simp only[List.length_map]at ha
  simp +contextual (disch:=omega) only[Tryd.f7,dd7,go_sem,simprocAttr,mu7,↓zAE,↓zAC,↓zAB,↓zAA,hp,h18,ha]
  exact(by first|rfl|(refine zAV (n:=1) (m:=⟨some [8,7,1,0],some 1,[]⟩) rfl rfl ?_ ?_ ?_<;>first|rfl|(simp[keepT,AV.underL,AV.under,MB.under,zAD,zAK,zAJ,zAF,zAG,zAH,zAI,-List.map_take,-List.map_replicate,-List.map_set,zAM,zAh];done)|(simp[keepT,AV.underL,AV.under,MB.under,zAD,zAK,zAJ,zAF,zAG,zAH,zAI,-List.map_take,-List.map_replicate,-List.map_set,zAM,zAh];omega)))
 ·intro _
  rw[List.take_of_length_le (Nat.le_refl _)]
  simp +contextual (disch:=omega) only[Tryd.f7,dd7,go_sem,simprocAttr,evAppend,mu7,↓zAE,↓zAC,↓zAB,↓zAA]
  have h2:fzA (fzJ 6) (.ms 0 1 (encT t).length 0 (encT t).length) [.row 1 ((encT t).map N8) 0]=some (.sl false ((encT t).map N8),mark [.row 1 ((encT t).map N8) 0] 0 (encT t).length):=zDW (n:=5) rfl (by simp) (zAM _)
  refine⟨mark [.row 1 ((encT t).map N8) 0] 0 (encT t).length,?_⟩
  simp only[fz,zEC,fzL,h2]
  rfl
end
section
attribute [local go_sem] evAppend
open Go.Proofs Go.RowKit Go.IntWalk
set_option maxRecDepth 100000
set_option maxHeartbeats 4000000
theorem f52 (s:Nat) (hs:SymOk s) (H:List MB):call Tryd.prog pol1 52 [NI s] H=some (.bool false,H):=by
 unfold SymOk at hs
 refine zAS Tryd.func52 rfl rfl rfl rfl rfl rfl (fun _=>rfl) (by simp[AV.plain,AV.plainL,zAF,zAG,zAH,zAI]) (by simp[AV.plain,AV.plainL,zAF,zAG,zAH,zAI]) ?_ H
 rcases hs with h|⟨h1,h2⟩
 ·simp +contextual (disch:=omega) only[Tryd.f52,dd52,go_sem,simprocAttr,mu52,↓zAE,↓zAC,↓zAB,↓zAA,h]
  exact⟨_,rfl⟩
 ·simp +contextual (disch:=omega) only[Tryd.f52,dd52,go_sem,simprocAttr,mu52,↓zAE,↓zAC,↓zAB,↓zAA,h1,h2]
  exact⟨_,rfl⟩
abbrev formsL:List AV:=[I 0,I 127,I 0,I 0,I 128,I 2047,I 192,I 1,I 2048,I 65535,I 224,I 2,I 65536,I 1114111,I 240,I 3]
theorem zKn (s:St):s.ev (.global 0)=.pt formsL:=rfl
theorem fi0:evIndex Tryd.prog 115 (.agg formsL) (I 0)=some (.agg [I 0,I 127,I 0,I 0]):=by kernel_rfl
theorem fi1:evIndex Tryd.prog 115 (.agg formsL) (I 1)=some (.agg [I 128,I 2047,I 192,I 1]):=by kernel_rfl
theorem fi2:evIndex Tryd.prog 115 (.agg formsL) (I 2)=some (.agg [I 2048,I 65535,I 224,I 2]):=by kernel_rfl
theorem fi3:evIndex Tryd.prog 115 (.agg formsL) (I 3)=some (.agg [I 65536,I 1114111,I 240,I 3]):=by kernel_rfl
theorem sh0:evShift .shr .i64 127 0=some (I 127):=by kernel_rfl
theorem sh1:evShift .shr .i64 2047 6=some (I 31):=by kernel_rfl
theorem sh2:evShift .shr .i64 65535 12=some (I 15):=by kernel_rfl
theorem sh3:evShift .shr .i64 1114111 18=some (I 4):=by kernel_rfl
theorem shl6 (x:Nat) (hx:x < 1099511627776):evShift .shl .i64 (x:Int) 6=some (I ((x:Int) * 64)):=by
 have h:IntKind.i64.wrap ((x:Int) * 2 ^ (min (6:Int).toNat IntKind.i64.bits))=(x:Int) * 64:=by
  rw[show (2:Int) ^ (min (6:Int).toNat IntKind.i64.bits)=64 by decide,i64_in]<;>omega
 simp only[evShift,h]
 rfl
theorem zJM (v c:Nat) (hv:v < 1099511627776) (h1:128≤c) (h2:c < 192):IntKind.i64.wrap (((BitVec.ofInt 64 ((v:Int) * 64) ||| BitVec.ofInt 64 (IntKind.i64.wrap (IntKind.u8.wrap (((BitVec.ofInt 8 (c:Int) &&& 63#8).toNat:Nat):Int)))).toNat:Nat):Int)=((v * 64+(c - 128):Nat):Int):=by
 have h3:IntKind.u8.wrap (((BitVec.ofInt 8 (c:Int) &&& 63#8).toNat:Nat):Int)=((c - 128:Nat):Int):=zMX c h2 h1
 rw[h3,show IntKind.i64.wrap ((c - 128:Nat):Int)=((c - 128:Nat):Int) by rw[i64_in]<;>omega]
 exact or6 v (c - 128) hv (by omega)
theorem all8 (l:List Nat):((l.map N8).all fun y=>decide ((match y with | .agg cs=>cs|x=>[x]).length=1))=true:=by simp
theorem zML (c0:Nat) (h0:0≤c0∧c0≤127) (s:Nat) (e:s=c0) (hlo:0≤s) (hhi:s≤127) (hs:SymOk s) (rest:List Nat) (H:List MB) :
  call Tryd.prog pol1 34 [.sl false ((c0::rest).map N8)] H=some (.tup [NI s,I 1],H):=by
 have h52:=f52 s hs
 have hl:((c0::rest).map N8)=N8 c0::rest.map N8:=rfl
 rw[hl]
 refine zAS Tryd.func34 rfl rfl rfl rfl rfl rfl (fun _=>rfl) (by simp[AV.plain,AV.plainL,zAF,zAh,zAM]) (by simp[AV.plain,AV.plainL,zAF,zAh,zAM]) ?_ H
 simp +contextual (disch:=omega) only[Tryd.f34,dd34,go_sem,simprocAttr,mu34,↓zAE,↓zAC,↓zAB,↓zAA,zKn]
 refine zAY (M:=(mskOf (pol1.mask 34) (pol1.gc 34) (pol1.acts 34) 0 3)) rfl 0 (fun i=>(⟨86,[(15,I i),(14,.agg formsL),(4,NI c0),(0,.sl false (N8 c0::rest.map N8))],[]⟩:St)) (fun i=>True) ?_ ?_ trivial _ (by first|rfl|(refine zAV (n:=0) (m:=⟨some [15,14,4,0],some 0,[]⟩) rfl rfl ?_ ?_ ?_<;>first|rfl|(simp[keepT,AV.underL,AV.under,MB.under,zAD,zAK,zAJ,zAF,zAG,zAH,zAI,-List.map_take,-List.map_replicate,-List.map_set,zAM];done)|(simp[keepT,AV.underL,AV.under,MB.under,zAD,zAK,zAJ,zAF,zAG,zAH,zAI,-List.map_take,-List.map_replicate,-List.map_set,zAM];omega)))
 ·intro i hi _
  exact absurd hi (by omega)
 ·intro _
  simp +contextual (disch:=omega) only[Tryd.f34,dd34,go_sem,simprocAttr,mu34,↓zAE,↓zAC,↓zAB,↓zAA,fi0,sh0,h0]
  refine⟨by unfold dOk;kernel_rfl,all8 rest,?_⟩
  refine zAY (M:=(mskOf (pol1.mask 34) (pol1.gc 34) (pol1.acts 34) 0 10)) rfl 0 (fun j=>(⟨86,[(50,I j),(49,I 0),(48,.sl false []),(7,NI (([c0]:List Nat).getD j 0)),(6,.rf 0 1 0 0)],[.row 4 [.agg [I 0,I 127,I 0,I 0]] 0]⟩:St)) (fun j=>True) ?_ ?_ trivial _ (by first|rfl|(refine zAV (n:=1) (m:=⟨some [50,49,48,7,6],some 1,[]⟩) rfl rfl ?_ ?_ ?_<;>first|rfl|(simp[keepT,AV.underL,AV.under,MB.under,zAD,zAK,zAJ,zAF,zAG,zAH,zAI,-List.map_take,-List.map_replicate,-List.map_set,zAM];done)|(simp[keepT,AV.underL,AV.under,MB.under,zAD,zAK,zAJ,zAF,zAG,zAH,zAI,-List.map_take,-List.map_replicate,-List.map_set,zAM];omega)))
  ·intro j hj _
   exact absurd hj (by omega)
  ·intro _
   simp only[List.getD_cons_zero,List.getD_cons_succ,← e]
   have hs1:¬ (s:Int) < 0:=by omega
   have hs2:¬ (127:Int) < (s:Int):=by omega
   simp +contextual (disch:=omega) only[Tryd.f34,dd34,go_sem,simprocAttr,mu34,↓zAE,↓zAC,↓zAB,↓zAA,h52,hs1,hs2]
   exact⟨by unfold dOk;kernel_rfl,_,rfl⟩
theorem zMK (c0 c1:Nat) (h0:192≤c0∧c0≤223) (h1:128≤c1∧c1 < 192) (s:Nat) (e:s=((c0 - 192) * 64+(c1 - 128))) (hlo:128≤s) (hhi:s≤2047) (hs:SymOk s) (rest:List Nat) (H:List MB) :
  call Tryd.prog pol1 34 [.sl false ((c0::c1::rest).map N8)] H=some (.tup [NI s,I 2],H):=by
 have h52:=f52 s hs
 have hl:((c0::c1::rest).map N8)=N8 c0::N8 c1::rest.map N8:=rfl
 rw[hl]
 refine zAS Tryd.func34 rfl rfl rfl rfl rfl rfl (fun _=>rfl) (by simp[AV.plain,AV.plainL,zAF,zAh,zAM]) (by simp[AV.plain,AV.plainL,zAF,zAh,zAM]) ?_ H
 simp +contextual (disch:=omega) only[Tryd.f34,dd34,go_sem,simprocAttr,mu34,↓zAE,↓zAC,↓zAB,↓zAA,zKn]
 refine zAY (M:=(mskOf (pol1.mask 34) (pol1.gc 34) (pol1.acts 34) 0 3)) rfl 1 (fun i=>(⟨86,[(15,I i),(14,.agg formsL),(4,NI c0),(0,.sl false (N8 c0::N8 c1::rest.map N8))],[]⟩:St)) (fun i=>True) ?_ ?_ trivial _ (by first|rfl|(refine zAV (n:=0) (m:=⟨some [15,14,4,0],some 0,[]⟩) rfl rfl ?_ ?_ ?_<;>first|rfl|(simp[keepT,AV.underL,AV.under,MB.under,zAD,zAK,zAJ,zAF,zAG,zAH,zAI,-List.map_take,-List.map_replicate,-List.map_set,zAM];done)|(simp[keepT,AV.underL,AV.under,MB.under,zAD,zAK,zAJ,zAF,zAG,zAH,zAI,-List.map_take,-List.map_replicate,-List.map_set,zAM];omega)))
 ·intro i hi _
  obtain rfl:i=0:=by omega
  ·simp +contextual (disch:=omega) only[Tryd.f34,dd34,go_sem,simprocAttr,mu34,↓zAE,↓zAC,↓zAB,↓zAA,fi0,sh0,h0]
   exact⟨by unfold dOk;kernel_rfl,(by first|rfl|(refine zAV (n:=0) (m:=⟨some [15,14,4,0],some 0,[]⟩) rfl rfl ?_ ?_ ?_<;>first|rfl|(simp[keepT,AV.underL,AV.under,MB.under,zAD,zAK,zAJ,zAF,zAG,zAH,zAI,-List.map_take,-List.map_replicate,-List.map_set,zAM];done)|(simp[keepT,AV.underL,AV.under,MB.under,zAD,zAK,zAJ,zAF,zAG,zAH,zAI,-List.map_take,-List.map_replicate,-List.map_set,zAM];omega)))⟩
 ·intro _
  simp +contextual (disch:=omega) only[Tryd.f34,dd34,go_sem,simprocAttr,mu34,↓zAE,↓zAC,↓zAB,↓zAA,fi1,sh1,h0]
  refine⟨by unfold dOk;kernel_rfl,all8 rest,?_⟩
  refine zAY (M:=(mskOf (pol1.mask 34) (pol1.gc 34) (pol1.acts 34) 0 10)) rfl 1 (fun j=>(⟨86,[(50,I j),(49,I 1),(48,.sl false [N8 c1]),(7,NI (([(c0 - 192),((c0 - 192) * 64+(c1 - 128))]:List Nat).getD j 0)),(6,.rf 0 1 0 0)],[.row 4 [.agg [I 128,I 2047,I 192,I 1]] 0]⟩:St)) (fun j=>True) ?_ ?_ trivial _ (by first|rfl|(refine zAV (n:=1) (m:=⟨some [50,49,48,7,6],some 1,[]⟩) rfl rfl ?_ ?_ ?_<;>first|rfl|(simp[keepT,AV.underL,AV.under,MB.under,zAD,zAK,zAJ,zAF,zAG,zAH,zAI,-List.map_take,-List.map_replicate,-List.map_set,zAM];done)|(simp[keepT,AV.underL,AV.under,MB.under,zAD,zAK,zAJ,zAF,zAG,zAH,zAI,-List.map_take,-List.map_replicate,-List.map_set,zAM];omega)))
  ·intro j hj _
   obtain rfl:j=0:=by omega
   ·have hsh:=shl6 (c0 - 192) (by omega)
    simp only[List.getD_cons_zero,List.getD_cons_succ,Nat.reduceAdd]
    generalize hv:(c0 - 192)=v at *
    simp +contextual (disch:=omega) only[Tryd.f34,dd34,go_sem,simprocAttr,mu34,↓zAE,↓zAC,↓zAB,↓zAA,hsh,h1]
    exact(congrArg (fun z:Int=>prep (mskOf (pol1.mask 34) (pol1.gc 34) (pol1.acts 34) 0 10) (⟨86,[(50,I 1),(49,I 1),(48,.sl false [N8 c1]),(7,.int .i64 z),(6,.rf 0 1 0 0)],[.row 4 [.agg [I 128,I 2047,I 192,I 1]] 0]⟩:St)) (zJM v c1 (by omega) h1.1 h1.2)).trans (by first|rfl|(refine zAV (n:=1) (m:=⟨some [50,49,48,7,6],some 1,[]⟩) rfl rfl ?_ ?_ ?_<;>first|rfl|(simp[keepT,AV.underL,AV.under,MB.under,zAD,zAK,zAJ,zAF,zAG,zAH,zAI,-List.map_take,-List.map_replicate,-List.map_set,zAM];done)|(simp[keepT,AV.underL,AV.under,MB.under,zAD,zAK,zAJ,zAF,zAG,zAH,zAI,-List.map_take,-List.map_replicate,-List.map_set,zAM];omega)))
  ·intro _
   simp only[List.getD_cons_zero,List.getD_cons_succ,← e]
   have hs1:¬ (s:Int) < 128:=by omega
   have hs2:¬ (2047:Int) < (s:Int):=by omega
   simp +contextual (disch:=omega) only[Tryd.f34,dd34,go_sem,simprocAttr,mu34,↓zAE,↓zAC,↓zAB,↓zAA,h52,hs1,hs2]
   exact⟨by unfold dOk;kernel_rfl,_,rfl⟩
theorem zMJ (c0 c1 c2:Nat) (h0:224≤c0∧c0≤239) (h1:128≤c1∧c1 < 192) (h2:128≤c2∧c2 < 192) (s:Nat) (e:s=(((c0 - 224) * 64+(c1 - 128)) * 64+(c2 - 128))) (hlo:2048≤s) (hhi:s≤65535) (hs:SymOk s) (rest:List Nat) (H:List MB) :
  call Tryd.prog pol1 34 [.sl false ((c0::c1::c2::rest).map N8)] H=some (.tup [NI s,I 3],H):=by
 have h52:=f52 s hs
 have hl:((c0::c1::c2::rest).map N8)=N8 c0::N8 c1::N8 c2::rest.map N8:=rfl
 rw[hl]
 refine zAS Tryd.func34 rfl rfl rfl rfl rfl rfl (fun _=>rfl) (by simp[AV.plain,AV.plainL,zAF,zAh,zAM]) (by simp[AV.plain,AV.plainL,zAF,zAh,zAM]) ?_ H
 simp +contextual (disch:=omega) only[Tryd.f34,dd34,go_sem,simprocAttr,mu34,↓zAE,↓zAC,↓zAB,↓zAA,zKn]
 refine zAY (M:=(mskOf (pol1.mask 34) (pol1.gc 34) (pol1.acts 34) 0 3)) rfl 2 (fun i=>(⟨86,[(15,I i),(14,.agg formsL),(4,NI c0),(0,.sl false (N8 c0::N8 c1::N8 c2::rest.map N8))],[]⟩:St)) (fun i=>True) ?_ ?_ trivial _ (by first|rfl|(refine zAV (n:=0) (m:=⟨some [15,14,4,0],some 0,[]⟩) rfl rfl ?_ ?_ ?_<;>first|rfl|(simp[keepT,AV.underL,AV.under,MB.under,zAD,zAK,zAJ,zAF,zAG,zAH,zAI,-List.map_take,-List.map_replicate,-List.map_set,zAM];done)|(simp[keepT,AV.underL,AV.under,MB.under,zAD,zAK,zAJ,zAF,zAG,zAH,zAI,-List.map_take,-List.map_replicate,-List.map_set,zAM];omega)))
 ·intro i hi _
  obtain rfl|rfl:i=0∨i=1:=by omega
  ·simp +contextual (disch:=omega) only[Tryd.f34,dd34,go_sem,simprocAttr,mu34,↓zAE,↓zAC,↓zAB,↓zAA,fi0,sh0,h0]
   exact⟨by unfold dOk;kernel_rfl,(by first|rfl|(refine zAV (n:=0) (m:=⟨some [15,14,4,0],some 0,[]⟩) rfl rfl ?_ ?_ ?_<;>first|rfl|(simp[keepT,AV.underL,AV.under,MB.under,zAD,zAK,zAJ,zAF,zAG,zAH,zAI,-List.map_take,-List.map_replicate,-List.map_set,zAM];done)|(simp[keepT,AV.underL,AV.under,MB.under,zAD,zAK,zAJ,zAF,zAG,zAH,zAI,-List.map_take,-List.map_replicate,-List.map_set,zAM];omega)))⟩
  ·simp +contextual (disch:=omega) only[Tryd.f34,dd34,go_sem,simprocAttr,mu34,↓zAE,↓zAC,↓zAB,↓zAA,fi1,sh1,h0]
   exact⟨by unfold dOk;kernel_rfl,(by first|rfl|(refine zAV (n:=0) (m:=⟨some [15,14,4,0],some 0,[]⟩) rfl rfl ?_ ?_ ?_<;>first|rfl|(simp[keepT,AV.underL,AV.under,MB.under,zAD,zAK,zAJ,zAF,zAG,zAH,zAI,-List.map_take,-List.map_replicate,-List.map_set,zAM];done)|(simp[keepT,AV.underL,AV.under,MB.under,zAD,zAK,zAJ,zAF,zAG,zAH,zAI,-List.map_take,-List.map_replicate,-List.map_set,zAM];omega)))⟩
 ·intro _
  simp +contextual (disch:=omega) only[Tryd.f34,dd34,go_sem,simprocAttr,mu34,↓zAE,↓zAC,↓zAB,↓zAA,fi2,sh2,h0]
  refine⟨by unfold dOk;kernel_rfl,all8 rest,?_⟩
  refine zAY (M:=(mskOf (pol1.mask 34) (pol1.gc 34) (pol1.acts 34) 0 10)) rfl 2 (fun j=>(⟨86,[(50,I j),(49,I 2),(48,.sl false [N8 c1,N8 c2]),(7,NI (([(c0 - 224),((c0 - 224) * 64+(c1 - 128)),(((c0 - 224) * 64+(c1 - 128)) * 64+(c2 - 128))]:List Nat).getD j 0)),(6,.rf 0 1 0 0)],[.row 4 [.agg [I 2048,I 65535,I 224,I 2]] 0]⟩:St)) (fun j=>True) ?_ ?_ trivial _ (by first|rfl|(refine zAV (n:=1) (m:=⟨some [50,49,48,7,6],some 1,[]⟩) rfl rfl ?_ ?_ ?_<;>first|rfl|(simp[keepT,AV.underL,AV.under,MB.under,zAD,zAK,zAJ,zAF,zAG,zAH,zAI,-List.map_take,-List.map_replicate,-List.map_set,zAM];done)|(simp[keepT,AV.underL,AV.under,MB.under,zAD,zAK,zAJ,zAF,zAG,zAH,zAI,-List.map_take,-List.map_replicate,-List.map_set,zAM];omega)))
  ·intro j hj _
   obtain rfl|rfl:j=0∨j=1:=by omega
   ·have hsh:=shl6 (c0 - 224) (by omega)
    simp only[List.getD_cons_zero,List.getD_cons_succ,Nat.reduceAdd]
    generalize hv:(c0 - 224)=v at *
    simp +contextual (disch:=omega) only[Tryd.f34,dd34,go_sem,simprocAttr,mu34,↓zAE,↓zAC,↓zAB,↓zAA,hsh,h1]
    exact(congrArg (fun z:Int=>prep (mskOf (pol1.mask 34) (pol1.gc 34) (pol1.acts 34) 0 10) (⟨86,[(50,I 1),(49,I 2),(48,.sl false [N8 c1,N8 c2]),(7,.int .i64 z),(6,.rf 0 1 0 0)],[.row 4 [.agg [I 2048,I 65535,I 224,I 2]] 0]⟩:St)) (zJM v c1 (by omega) h1.1 h1.2)).trans (by first|rfl|(refine zAV (n:=1) (m:=⟨some [50,49,48,7,6],some 1,[]⟩) rfl rfl ?_ ?_ ?_<;>first|rfl|(simp[keepT,AV.underL,AV.under,MB.under,zAD,zAK,zAJ,zAF,zAG,zAH,zAI,-List.map_take,-List.map_replicate,-List.map_set,zAM];done)|(simp[keepT,AV.underL,AV.under,MB.under,zAD,zAK,zAJ,zAF,zAG,zAH,zAI,-List.map_take,-List.map_replicate,-List.map_set,zAM];omega)))
   ·have hsh:=shl6 ((c0 - 224) * 64+(c1 - 128)) (by omega)
    simp only[List.getD_cons_zero,List.getD_cons_succ,Nat.reduceAdd]
    generalize hv:((c0 - 224) * 64+(c1 - 128))=v at *
    simp +contextual (disch:=omega) only[Tryd.f34,dd34,go_sem,simprocAttr,mu34,↓zAE,↓zAC,↓zAB,↓zAA,hsh,h2]
    exact(congrArg (fun z:Int=>prep (mskOf (pol1.mask 34) (pol1.gc 34) (pol1.acts 34) 0 10) (⟨86,[(50,I 2),(49,I 2),(48,.sl false [N8 c1,N8 c2]),(7,.int .i64 z),(6,.rf 0 1 0 0)],[.row 4 [.agg [I 2048,I 65535,I 224,I 2]] 0]⟩:St)) (zJM v c2 (by omega) h2.1 h2.2)).trans (by first|rfl|(refine zAV (n:=1) (m:=⟨some [50,49,48,7,6],some 1,[]⟩) rfl rfl ?_ ?_ ?_<;>first|rfl|(simp[keepT,AV.underL,AV.under,MB.under,zAD,zAK,zAJ,zAF,zAG,zAH,zAI,-List.map_take,-List.map_replicate,-List.map_set,zAM];done)|(simp[keepT,AV.underL,AV.under,MB.under,zAD,zAK,zAJ,zAF,zAG,zAH,zAI,-List.map_take,-List.map_replicate,-List.map_set,zAM];omega)))
  ·intro _
   simp only[List.getD_cons_zero,List.getD_cons_succ,← e]
   have hs1:¬ (s:Int) < 2048:=by omega
   have hs2:¬ (65535:Int) < (s:Int):=by omega
   simp +contextual (disch:=omega) only[Tryd.f34,dd34,go_sem,simprocAttr,mu34,↓zAE,↓zAC,↓zAB,↓zAA,h52,hs1,hs2]
   exact⟨by unfold dOk;kernel_rfl,_,rfl⟩
theorem zMI (c0 c1 c2 c3:Nat) (h0:240≤c0∧c0≤244) (h1:128≤c1∧c1 < 192) (h2:128≤c2∧c2 < 192) (h3:128≤c3∧c3 < 192) (s:Nat) (e:s=((((c0 - 240) * 64+(c1 - 128)) * 64+(c2 - 128)) * 64+(c3 - 128))) (hlo:65536≤s) (hhi:s≤1114111) (hs:SymOk s) (rest:List Nat) (H:List MB) :
  call Tryd.prog pol1 34 [.sl false ((c0::c1::c2::c3::rest).map N8)] H=some (.tup [NI s,I 4],H):=by
 have h52:=f52 s hs
 have hl:((c0::c1::c2::c3::rest).map N8)=N8 c0::N8 c1::N8 c2::N8 c3::rest.map N8:=rfl
 rw[hl]
 refine zAS Tryd.func34 rfl rfl rfl rfl rfl rfl (fun _=>rfl) (by simp[AV.plain,AV.plainL,zAF,zAh,zAM]) (by simp[AV.plain,AV.plainL,zAF,zAh,zAM]) ?_ H
 simp +contextual (disch:=omega) only[Tryd.f34,dd34,go_sem,simprocAttr,mu34,↓zAE,↓zAC,↓zAB,↓zAA,zKn]
 refine zAY (M:=(mskOf (pol1.mask 34) (pol1.gc 34) (pol1.acts 34) 0 3)) rfl 3 (fun i=>(⟨86,[(15,I i),(14,.agg formsL),(4,NI c0),(0,.sl false (N8 c0::N8 c1::N8 c2::N8 c3::rest.map N8))],[]⟩:St)) (fun i=>True) ?_ ?_ trivial _ (by first|rfl|(refine zAV (n:=0) (m:=⟨some [15,14,4,0],some 0,[]⟩) rfl rfl ?_ ?_ ?_<;>first|rfl|(simp[keepT,AV.underL,AV.under,MB.under,zAD,zAK,zAJ,zAF,zAG,zAH,zAI,-List.map_take,-List.map_replicate,-List.map_set,zAM];done)|(simp[keepT,AV.underL,AV.under,MB.under,zAD,zAK,zAJ,zAF,zAG,zAH,zAI,-List.map_take,-List.map_replicate,-List.map_set,zAM];omega)))
 ·intro i hi _
  obtain rfl|rfl|rfl:i=0∨i=1∨i=2:=by omega
  ·simp +contextual (disch:=omega) only[Tryd.f34,dd34,go_sem,simprocAttr,mu34,↓zAE,↓zAC,↓zAB,↓zAA,fi0,sh0,h0]
   exact⟨by unfold dOk;kernel_rfl,(by first|rfl|(refine zAV (n:=0) (m:=⟨some [15,14,4,0],some 0,[]⟩) rfl rfl ?_ ?_ ?_<;>first|rfl|(simp[keepT,AV.underL,AV.under,MB.under,zAD,zAK,zAJ,zAF,zAG,zAH,zAI,-List.map_take,-List.map_replicate,-List.map_set,zAM];done)|(simp[keepT,AV.underL,AV.under,MB.under,zAD,zAK,zAJ,zAF,zAG,zAH,zAI,-List.map_take,-List.map_replicate,-List.map_set,zAM];omega)))⟩
  ·simp +contextual (disch:=omega) only[Tryd.f34,dd34,go_sem,simprocAttr,mu34,↓zAE,↓zAC,↓zAB,↓zAA,fi1,sh1,h0]
   exact⟨by unfold dOk;kernel_rfl,(by first|rfl|(refine zAV (n:=0) (m:=⟨some [15,14,4,0],some 0,[]⟩) rfl rfl ?_ ?_ ?_<;>first|rfl|(simp[keepT,AV.underL,AV.under,MB.under,zAD,zAK,zAJ,zAF,zAG,zAH,zAI,-List.map_take,-List.map_replicate,-List.map_set,zAM];done)|(simp[keepT,AV.underL,AV.under,MB.under,zAD,zAK,zAJ,zAF,zAG,zAH,zAI,-List.map_take,-List.map_replicate,-List.map_set,zAM];omega)))⟩
  ·simp +contextual (disch:=omega) only[Tryd.f34,dd34,go_sem,simprocAttr,mu34,↓zAE,↓zAC,↓zAB,↓zAA,fi2,sh2,h0]
   exact⟨by unfold dOk;kernel_rfl,(by first|rfl|(refine zAV (n:=0) (m:=⟨some [15,14,4,0],some 0,[]⟩) rfl rfl ?_ ?_ ?_<;>first|rfl|(simp[keepT,AV.underL,AV.under,MB.under,zAD,zAK,zAJ,zAF,zAG,zAH,zAI,-List.map_take,-List.map_replicate,-List.map_set,zAM];done)|(simp[keepT,AV.underL,AV.under,MB.under,zAD,zAK,zAJ,zAF,zAG,zAH,zAI,-List.map_take,-List.map_replicate,-List.map_set,zAM];omega)))⟩
 ·intro _
  simp +contextual (disch:=omega) only[Tryd.f34,dd34,go_sem,simprocAttr,mu34,↓zAE,↓zAC,↓zAB,↓zAA,fi3,sh3,h0]
  refine⟨by unfold dOk;kernel_rfl,all8 rest,?_⟩
  refine zAY (M:=(mskOf (pol1.mask 34) (pol1.gc 34) (pol1.acts 34) 0 10)) rfl 3 (fun j=>(⟨86,[(50,I j),(49,I 3),(48,.sl false [N8 c1,N8 c2,N8 c3]),(7,NI (([(c0 - 240),((c0 - 240) * 64+(c1 - 128)),(((c0 - 240) * 64+(c1 - 128)) * 64+(c2 - 128)),((((c0 - 240) * 64+(c1 - 128)) * 64+(c2 - 128)) * 64+(c3 - 128))]:List Nat).getD j 0)),(6,.rf 0 1 0 0)],[.row 4 [.agg [I 65536,I 1114111,I 240,I 3]] 0]⟩:St)) (fun j=>True) ?_ ?_ trivial _ (by first|rfl|(refine zAV (n:=1) (m:=⟨some [50,49,48,7,6],some 1,[]⟩) rfl rfl ?_ ?_ ?_<;>first|rfl|(simp[keepT,AV.underL,AV.under,MB.under,zAD,zAK,zAJ,zAF,zAG,zAH,zAI,-List.map_take,-List.map_replicate,-List.map_set,zAM];done)|(simp[keepT,AV.underL,AV.under,MB.under,zAD,zAK,zAJ,zAF,zAG,zAH,zAI,-List.map_take,-List.map_replicate,-List.map_set,zAM];omega)))
  ·intro j hj _
   obtain rfl|rfl|rfl:j=0∨j=1∨j=2:=by omega
   ·have hsh:=shl6 (c0 - 240) (by omega)
    simp only[List.getD_cons_zero,List.getD_cons_succ,Nat.reduceAdd]
    generalize hv:(c0 - 240)=v at *
    simp +contextual (disch:=omega) only[Tryd.f34,dd34,go_sem,simprocAttr,mu34,↓zAE,↓zAC,↓zAB,↓zAA,hsh,h1]
    exact(congrArg (fun z:Int=>prep (mskOf (pol1.mask 34) (pol1.gc 34) (pol1.acts 34) 0 10) (⟨86,[(50,I 1),(49,I 3),(48,.sl false [N8 c1,N8 c2,N8 c3]),(7,.int .i64 z),(6,.rf 0 1 0 0)],[.row 4 [.agg [I 65536,I 1114111,I 240,I 3]] 0]⟩:St)) (zJM v c1 (by omega) h1.1 h1.2)).trans (by first|rfl|(refine zAV (n:=1) (m:=⟨some [50,49,48,7,6],some 1,[]⟩) rfl rfl ?_ ?_ ?_<;>first|rfl|(simp[keepT,AV.underL,AV.under,MB.under,zAD,zAK,zAJ,zAF,zAG,zAH,zAI,-List.map_take,-List.map_replicate,-List.map_set,zAM];done)|(simp[keepT,AV.underL,AV.under,MB.under,zAD,zAK,zAJ,zAF,zAG,zAH,zAI,-List.map_take,-List.map_replicate,-List.map_set,zAM];omega)))
   ·have hsh:=shl6 ((c0 - 240) * 64+(c1 - 128)) (by omega)
    simp only[List.getD_cons_zero,List.getD_cons_succ,Nat.reduceAdd]
    generalize hv:((c0 - 240) * 64+(c1 - 128))=v at *
    simp +contextual (disch:=omega) only[Tryd.f34,dd34,go_sem,simprocAttr,mu34,↓zAE,↓zAC,↓zAB,↓zAA,hsh,h2]
    exact(congrArg (fun z:Int=>prep (mskOf (pol1.mask 34) (pol1.gc 34) (pol1.acts 34) 0 10) (⟨86,[(50,I 2),(49,I 3),(48,.sl false [N8 c1,N8 c2,N8 c3]),(7,.int .i64 z),(6,.rf 0 1 0 0)],[.row 4 [.agg [I 65536,I 1114111,I 240,I 3]] 0]⟩:St)) (zJM v c2 (by omega) h2.1 h2.2)).trans (by first|rfl|(refine zAV (n:=1) (m:=⟨some [50,49,48,7,6],some 1,[]⟩) rfl rfl ?_ ?_ ?_<;>first|rfl|(simp[keepT,AV.underL,AV.under,MB.under,zAD,zAK,zAJ,zAF,zAG,zAH,zAI,-List.map_take,-List.map_replicate,-List.map_set,zAM];done)|(simp[keepT,AV.underL,AV.under,MB.under,zAD,zAK,zAJ,zAF,zAG,zAH,zAI,-List.map_take,-List.map_replicate,-List.map_set,zAM];omega)))
   ·have hsh:=shl6 (((c0 - 240) * 64+(c1 - 128)) * 64+(c2 - 128)) (by omega)
    simp only[List.getD_cons_zero,List.getD_cons_succ,Nat.reduceAdd]
    generalize hv:(((c0 - 240) * 64+(c1 - 128)) * 64+(c2 - 128))=v at *
    simp +contextual (disch:=omega) only[Tryd.f34,dd34,go_sem,simprocAttr,mu34,↓zAE,↓zAC,↓zAB,↓zAA,hsh,h3]
    exact(congrArg (fun z:Int=>prep (mskOf (pol1.mask 34) (pol1.gc 34) (pol1.acts 34) 0 10) (⟨86,[(50,I 3),(49,I 3),(48,.sl false [N8 c1,N8 c2,N8 c3]),(7,.int .i64 z),(6,.rf 0 1 0 0)],[.row 4 [.agg [I 65536,I 1114111,I 240,I 3]] 0]⟩:St)) (zJM v c3 (by omega) h3.1 h3.2)).trans (by first|rfl|(refine zAV (n:=1) (m:=⟨some [50,49,48,7,6],some 1,[]⟩) rfl rfl ?_ ?_ ?_<;>first|rfl|(simp[keepT,AV.underL,AV.under,MB.under,zAD,zAK,zAJ,zAF,zAG,zAH,zAI,-List.map_take,-List.map_replicate,-List.map_set,zAM];done)|(simp[keepT,AV.underL,AV.under,MB.under,zAD,zAK,zAJ,zAF,zAG,zAH,zAI,-List.map_take,-List.map_replicate,-List.map_set,zAM];omega)))
  ·intro _
   simp only[List.getD_cons_zero,List.getD_cons_succ,← e]
   have hs1:¬ (s:Int) < 65536:=by omega
   have hs2:¬ (1114111:Int) < (s:Int):=by omega
   simp +contextual (disch:=omega) only[Tryd.f34,dd34,go_sem,simprocAttr,mu34,↓zAE,↓zAC,↓zAB,↓zAA,h52,hs1,hs2]
   exact⟨by unfold dOk;kernel_rfl,_,rfl⟩
end
section
open Go.Proofs Go.RowKit Go.IntWalk
set_option maxRecDepth 100000
set_option maxHeartbeats 4000000
theorem f34 (s:Nat) (hs:SymOk s) (rest:List Nat) (H:List MB) :
  call Tryd.prog pol1 34 [.sl false ((enc1 s++rest).map N8)] H=some (.tup [NI s,NI (enc1 s).length],H):=by
 have hs':=hs
 unfold SymOk at hs'
 by_cases h1:s < 128
 ·have e:enc1 s=[s]:=by simp[enc1,h1]
  rw[e]
  exact zML s (by omega) s rfl (by omega) (by omega) hs rest H
 by_cases h2:s < 2048
 ·have e:enc1 s=[192+s / 64,128+s % 64]:=by simp[enc1,h1,h2]
  rw[e]
  exact zMK _ _ (by omega) (by omega) s (by omega) (by omega) (by omega) hs rest H
 by_cases h3:s < 65536
 ·have e:enc1 s=[224+s / 4096,128+s / 64 % 64,128+s % 64]:=by simp[enc1,h1,h2,h3]
  rw[e]
  exact zMJ _ _ _ (by omega) (by omega) (by omega) s (by omega) (by omega) (by omega) hs rest H
 ·have e:enc1 s=[240+s / 262144,128+s / 4096 % 64,128+s / 64 % 64,128+s % 64]:=by simp[enc1,h1,h2,h3]
  rw[e]
  exact zMI _ _ _ _ (by omega) (by omega) (by omega) (by omega) s (by omega) (by omega) (by omega) hs rest H
abbrev tm8:Tm:=[(7,.rf 6 1 0 0),(6,.rf 4 1 0 0),(5,.rf 3 1 0 0),(4,.rf 2 1 0 0)]
abbrev deH (x y:MB) (b:List Nat) (c:Code×Code) (ls:LS) (t:List Nat):List MB:=
 [x,y,.row 1 [.sl true []] 0,.row 1 [I 0] 0,.row 1 [.ms 5 1 t.length 0 t.length] 0,.row 1 (t.map NI) 0,.row 1 [NI t.length] 0,.row 1 [.sl false (b.map N8)] 0,.row 1 [.bool true] 0,.lp ls 8 26 tm8 [12] c]
theorem zMV {H:List MB} {i n:Nat} {rs:List Nat} {c:Nat} {t:Bool} (hi:getRow H i=some (1,rs.map NI,0)) (hn:rs.length=n) (hr:n+1≤4000000000) :
  evAppend Tryd.prog H 22 22 (.ms i 1 n 0 n) (.sl t [NI c])=some (.ms i 1 (n+1) 0 (n+1),H.set i (.row 1 ((rs++[c]).map NI) 0)):=by
 have hs:srcElems Tryd.prog H 3 (.sl t [NI c])=some [NI c]:=rfl
 rw[zAs (e:=3) (by kernel_rfl) (by kernel_rfl) (k:=1) (by kernel_rfl) (by_:=8) (by kernel_rfl) (ze:=I 0) (by kernel_rfl) rfl (by omega) hs rfl hi (by rw[List.length_map];exact hn) (Nat.zero_le _) (zAU (by simpa using hr) (by omega))]
 rw[List.map_append]
 rfl
theorem y8 (x y:MB) (b:List Nat) (c:Code×Code) (hc:c=rfOf Tryd.prog 8) (t:List Nat) (s:Nat) (ht:t.length≤1000) :
  call Tryd.prog pol1 1000000000 [.yld 9,NI s] (deH x y b c .ready t)=some (.bool true,deH x y b c .ready (t++[s])):=by
 have e1:=congrArg (·.1) hc
 have e2:=congrArg (·.2) hc
 simp only[rfOf,Tryd.func8,Tryd.f8,findRF,List.append_nil,List.nil_append,List.headD]at e1 e2
 clear hc
 have ha:=fun tt=>zMV (H:=(deH x y b c .busy t).set 6 (.row 1 [NI (t.length+1)] 0)) (i:=5) (n:=t.length) (rs:=t) (c:=s) (t:=tt) rfl rfl (by omega)
 simp only[deH,List.set]at ha
 refine zBO (f:=8) (n:=26) (t:=tm8) (ps:=[12]) (c:=c) rfl rfl rfl e1 e2 ?_
 simp +contextual (disch:=omega) only[Tryd.f8,dd8,go_sem,simprocAttr,mu8,↓zAE,↓zAC,↓zAB,↓zAA,zB9,beginRd,MB.beqT_refl,zAi,ha,zAR]
 refine(zBX rfl).trans ?_
 simp
theorem zKP (t:List Nat) (ht:∀ s∈t,SymOk s):∀ b∈encT t,b < 256:=by
 intro b hb
 obtain⟨s,hs,hb⟩:=List.mem_flatMap.1 hb
 exact zKQ s (ht s hs) b hb
theorem f33 (x y:MB) (t:List Nat) (ht:∀ s∈t,SymOk s) (hl:t.length≤1000) (c:Code×Code) (hc:c=rfOf Tryd.prog 8) (hx:MB.under 10 x=true) (hy:MB.under 10 y=true) :
  call Tryd.prog pol1 33 [.yld 9,.rf 7 1 0 0,.rf 8 1 0 0] (deH x y (encT t) c .ready [])=some (.tup [],deH x y (encT t) c .ready t):=by
 refine zAg (pol:=pol1) Tryd.func33 rfl rfl rfl rfl (zAa _ _ 0 rfl) ?_
 simp +contextual (disch:=omega) only[Tryd.f33,dd33,go_sem,simprocAttr,evAppend,mu33,↓zAE,↓zAC,↓zAB,↓zAA]
 refine zAY (M:=(mskOf (pol1.mask 33) (pol1.gc 33) (pol1.acts 33) 0 1)) rfl t.length (fun i=>(⟨35,[(4,NI (encT (t.take i)).length),(2,.rf 8 1 0 0),(1,.rf 7 1 0 0),(0,.yld 9)],deH x y (encT t) c .ready (t.take i)⟩:St)) (fun i=>True) ?_ ?_ trivial _ rfl
 ·intro i hi _
  obtain⟨p,hp⟩:∃ p,t[i]?=some p:=⟨_,List.getElem?_eq_getElem (by omega)⟩
  have hb:encT t=encT (t.take i)++(enc1 p++encT (t.drop (i+1))):=by
   have h1:t=t.take i++p::t.drop (i+1):=by
    conv=>lhs;rw[← List.take_append_drop i t]
    rw[List.drop_eq_getElem_cons (by omega)]
    congr 2
    have:=List.getElem?_eq_getElem (l:=t) (i:=i) (by omega)
    rw[this]at hp;cases hp;rfl
   conv=>lhs;rw[h1]
   simp[encT]
  have hs:encT (t.take (i+1))=encT (t.take i)++enc1 p:=by rw[List.take_add_one,hp];exact zHj _ _
  have ht1:t.take (i+1)=t.take i++[p]:=by rw[List.take_add_one,hp];rfl
  have hlb:=zIx t
  have hp4:(enc1 p).length≤4∧0 < (enc1 p).length:=by rw[zGe];split<;>(try split)<;>(try split)<;>omega
  have h34:=f34 p (ht p (List.mem_of_getElem? hp)) (encT (t.drop (i+1)))
  have hyd:=y8 x y (encT t) c hc (t.take i) p (by simp;omega)
  rw[hs,ht1]
  generalize hA:encT (t.take i)=A at *
  generalize hR:encT (t.drop (i+1))=R at *
  generalize hB:encT t=B at *
  generalize t.take i=ti at *
  have hlen:B.length=A.length+((enc1 p).length+R.length):=by rw[hb];simp
  obtain⟨q,hq⟩:∃ q,B[A.length]?=some q:=⟨_,List.getElem?_eq_getElem (by omega)⟩
  have hq':(B.map N8)[A.length]?=some (N8 q):=by simp[hq]
  have hdr:((B.map N8).take B.length).drop A.length=(enc1 p++R).map N8:=by rw[List.take_of_length_le (by simp),hb,← List.map_drop,List.drop_left]
  have hall:=all8 B
  have hlt:((A.length:Int) < (B.length:Int))=True:=eq_true (by omega)
  have hle:((A.length:Int)≤(B.length:Int))=True:=eq_true (by omega)
  have hq8:q < 256:=zKP t ht q (by rw[hB];exact List.mem_of_getElem? hq)
  have hz:¬ ((enc1 p).length:Int)=0:=by omega
  simp only[List.map_append]at h34
  simp +contextual (disch:=omega) only[Tryd.f33,dd33,go_sem,simprocAttr,evAppend,mu33,↓zAE,↓zAC,↓zAB,↓zAA,hq',hdr,hlt,hle,h34,hyd,zAR,hz]
  refine⟨hall,?_⟩
  rfl
 ·intro _
  rw[List.take_length]
  have hlt:(((encT t).length:Int) < ((encT t).length:Int))=False:=eq_false (Int.lt_irrefl _)
  simp +contextual (disch:=omega) only[Tryd.f33,dd33,go_sem,simprocAttr,evAppend,mu33,↓zAE,↓zAC,↓zAB,↓zAA,zAR,hlt]
  refine zAf rfl rfl rfl (zD9 _ _ _ fun z hz=>?_) rfl
  simp only[deH,List.length_cons,List.length_nil,Nat.zero_add,Nat.reduceAdd,List.take_succ_cons,List.take_zero,List.mem_cons,List.not_mem_nil,or_false]at hz ⊢
  rcases hz with rfl|rfl|rfl|rfl|rfl|rfl|rfl|rfl|rfl|rfl
  ·exact hx
  ·exact hy
  all_goals simp[MB.under,AV.underL,AV.under,zAD,zAh,zAM]
theorem f19 (l:List Nat) (H:List MB):call Tryd.prog pol1 19 [.sl false (l.map N8),.bool true] H=some (.clo 33 [.rf H.length 1 0 0,.rf (H.length+1) 1 0 0],H++[.row 1 [.sl false (l.map N8)] 0,.row 1 [.bool true] 0]):=by
 refine zAg (pol:=pol1) Tryd.func19 rfl rfl rfl rfl (zAa H _ 0 (by
  have h1:AV.plain (.sl false (l.map N8))=true:=by simp[AV.plain,zAM]
  have h3:AV.plain (.bool true)=true:=rfl
  simp[mixOk,h1,h3])) ?_
 simp +contextual (disch:=omega) only[Tryd.f19,dd19,go_sem,simprocAttr,evAppend,mu19,↓zAE,↓zAC,↓zAB,↓zAA,List.append_assoc,List.length_append]
 rfl
abbrev deE (x y:MB) (c:Code×Code) (b t:List Nat):List MB:=
 [x,y,.row 1 [.ms 5 1 t.length 0 t.length] 0,.row 1 [I 0] 0,.row 1 [.ms 5 1 t.length 0 t.length] 0,.row 1 (t.map NI) 0,.row 1 [NI t.length] 0,.row 1 [.sl false (b.map N8)] 0,.row 1 [.bool true] 0,.lp .over 8 26 [] [12] c]
theorem zJj {cf:CF} {it:It} {mu:List Nat} {m:Cfg} {g f h n:Nat} {cs:List AV} {ps:Array Tmp} {asg b:Code} {c:Code×Code} {t:Tm} {H H':List MB} {r:AV} {e:EX} {s':St} {Q:EX→St→Prop} {τ} (mk:Option (List Nat)) (hcc:c=(asg,b)) (hf:m.rf=some f) (hg:look t g=some (.clo h cs)) (hk:(m.lp (loopId b)).k=mk)
  (hne:h≠yldF) (hc:cf h (.yld H.length::cs) (H++[.lp .ready f n (keepT mk t) ps.toList c])=some (r,H')) (he:endLp H' H.length ⟨n,t,H⟩=some (e,s')) (hq:Q e s'):W Tryd.prog cf it mu m (.rangeFunc (.tmp g) ps asg b) ⟨n,t,H⟩ Q τ:=by
 subst hcc
 exact zF8 mk hf hg hk hne hc he hq
theorem f8 (x y:MB) (t:List Nat) (ht:∀ s∈t,SymOk s) (hl:t.length≤1000) (hx:MB.under 10 x=true) (hy:MB.under 10 y=true) (c:Code×Code) (hc:c=rfOf Tryd.prog 8) :
  call Tryd.prog pol1 8 [.sl false ((encT t).map N8),.bool true] [x,y]=some (.tup [.ms 5 1 t.length 0 t.length,I 0],deE x y c (encT t) t):=by
 refine zAg (pol:=pol1) Tryd.func8 rfl rfl rfl rfl (zAa _ _ 0 (by
  have h1:AV.plain (.sl false ((encT t).map N8))=true:=by simp[AV.plain,zAM]
  have h3:AV.plain (.bool true)=true:=rfl
  simp[mixOk,h1,h3])) ?_
 have h19:=fun H=>f19 (encT t) H
 have key:=f33 x y t ht hl c hc hx hy
 simp +contextual (disch:=omega) only[Tryd.f8,dd8,go_sem,simprocAttr,evAppend,mu8,↓zAE,↓zAC,↓zAB,↓zAA,h19]
 have hgt:¬ (65536:Int) < (t.length:Int):=by omega
 refine zJj (c:=c) (mk:=some [7,6,5,4]) (hc.trans (by kernel_rfl)) rfl rfl rfl (by decide) key (zEH rfl) ?_
 simp +contextual (disch:=omega) only[Tryd.f8,dd8,go_sem,simprocAttr,evAppend,mu8,↓zAE,↓zAC,↓zAB,↓zAA,hgt,zAR]
 rfl
end
end Go.Ev
set_option linter.unusedSectionVars false
namespace Go.Ev
def setRe (x:Nat):Re:=.mk 1 [((x:Int),(x:Int))] [] 0 0 0 0 false
def seqRe (t:List Nat):Re:=.mk 2 [] (t.map setRe) 0 0 0 0 false
def intT (t:List Nat):List Int:=t.map fun x:Nat=>(x:Int)
theorem zBY (t:List Nat):(intT t).length=t.length:=by simp[intT]
theorem zKi (t:List Nat) (k:Nat):(intT t)[k]?=(t[k]?).map fun x:Nat=>(x:Int):=by simp[intT]
theorem zJu:∀ t:List Nat,Re.wtL (t.map setRe)=2 * t.length
 | []=>rfl
 | x::t=>by
   simp only[List.map_cons,Re.wtL,zJu t,List.length_cons]
   simp[setRe,Re.wt,Re.wtL];omega
theorem zLa (t:List Nat):(seqRe t).wt=1+2 * t.length:=by simp[seqRe,Re.wt,zJu]
theorem zG6:∀ t:List Nat,Re.sizeL (t.map setRe)=t.length
 | []=>rfl
 | x::t=>by
   simp only[List.map_cons,Re.sizeL,zG6 t,List.length_cons]
   simp[setRe,Re.size,Re.sizeL];omega
theorem zFm:∀ t:List Nat,Re.depthL (t.map setRe)≤1
 | []=>by simp[Re.depthL]
 | x::t=>by
   have:=zFm t
   simp only[List.map_cons,Re.depthL]
   simp only[setRe,Re.depth,Re.depthL]
   omega
theorem zI8 {x:Nat} (hx:x≤1114111):wholeG 0 1114111 (setRe x)=true:=by
 have h1:spansG [((x:Int),(x:Int))] 1114111=true:=zEx (by simp) fun k hk=>by
  obtain rfl:k=0:=by simpa using hk
  simp[badS];omega
 simp[setRe,wholeG,wholeL,formedG,kidsG,h1]
theorem zJv {t:List Nat} (ht:∀ s∈t,SymOk s) (h2:2≤t.length) (hl:t.length≤12):wholeG 0 1114111 (seqRe t)=true:=by
 have h1:wholeL 0 1114111 (t.map setRe)=true:=by
  rw[zD3]
  intro k hk
  obtain⟨x,hx,rfl⟩:=List.mem_map.1 hk
  have:=ht x hx
  unfold SymOk at this
  exact zI8 (by omega)
 simp only[seqRe,wholeG,h1,Bool.and_true]
 simp[formedG,kidsG]
 omega
theorem zG9:∀ t:List Nat,compL [] (t.map setRe)=true
 | []=>by simp[compL]
 | x::t=>by
   simp only[List.map_cons,compL,zG9 t,Bool.and_true]
   simp[setRe,compG,compL]
theorem zKb (t:List Nat):compG [] (seqRe t)=true:=by
 simp only[seqRe,compG]
 simp[zG9]
theorem zIg:∀ t:List Nat,lenL (t.map setRe)=t.length
 | []=>rfl
 | x::t=>by
   simp only[List.map_cons,lenL,zIg t,List.length_cons]
   simp[setRe,lenG];omega
theorem zE0:∀(t:List Nat) (f:Nat),codeCat (t.map setRe) f=(intT t).map fun x=>(⟨1,0,0,0,[(x,x)]⟩:Ins)
 | [],f=>by simp[codeCat,intT]
 | x::t,f=>by
   simp only[List.map_cons,codeCat,zE0 t]
   simp[setRe,codeG,intT]
theorem zJx {t:List Nat} (ht:∀ s∈t,SymOk s) (h2:2≤t.length) (hl:t.length≤12):compP ⟨seqRe t,0,true⟩=(⟨seqI (intT t),0,true⟩,0):=by
 have hs:(seqRe t).size=1+t.length:=by simp[seqRe,Re.size,zG6]
 have hd:(seqRe t).depth≤2:=by have:=zFm t;simp only[seqRe,Re.depth];omega
 have hv:validP ⟨seqRe t,0,true⟩=0:=by
  unfold validP
  rw[if_neg (by simp only[hs];omega)]
  rw[if_neg (by simp[topI,zJv ht h2 hl])]
 have hlen:lenG (seqRe t)=t.length:=by simp[seqRe,lenG,zIg]
 have hcode:codeG (seqRe t) 0=(intT t).map fun x=>(⟨1,0,0,0,[(x,x)]⟩:Ins):=by
  rw[seqRe,codeG]
  exact zE0 t 0
 unfold compP
 rw[if_pos hv,if_pos (zKb t),if_pos (by simp only[hlen];omega)]
 simp only[hcode]
 rfl
theorem zG7 (x:Int) (h:0≤x) (h2:x≤1114111):refSpans [(x,x)]=0:=by
 rw[zDm fun k hk=>?_]
 ·rfl
 ·obtain rfl:k=0:=by simpa using hk
  simp[badAt];omega
theorem zJA {t:List Nat} (ht:∀ s∈t,SymOk s) (hl:t.length≤12):acceptG ⟨seqI (intT t),0,true⟩=0:=by
 have hlen:(seqI (intT t)).length=t.length+1:=by rw[zEs,zBY]
 have hmem:∀ i∈seqI (intT t),i=⟨0,0,0,0,[]⟩∨∃ x:Nat,x∈t∧i=⟨1,0,0,0,[((x:Int),(x:Int))]⟩:=by
  intro i hi
  rcases List.mem_append.1 hi with h|h
  ·obtain⟨y,hy,rfl⟩:=List.mem_map.1 h
   obtain⟨x,hx,rfl⟩:=List.mem_map.1 hy
   exact .inr ⟨x,hx,rfl⟩
  ·exact .inl (by simpa using h)
 have hv:validG ⟨seqI (intT t),0,true⟩=0:=by
  unfold validG
  rw[if_neg (by simp only[hlen];omega),if_neg (by simp only[hlen];omega),if_pos]
  rw[Bool.and_eq_true,List.all_eq_true]
  refine⟨fun i hi=>?_,?_⟩
  ·rcases hmem i hi with rfl|⟨x,hx,rfl⟩
   ·simp[okIns]
   ·have:=ht x hx
    unfold SymOk at this
    have h1:=zG7 x (by omega) (by omega)
    simp[okIns,h1,lastOk];omega
  ·have:=zDF (intT t)
   simp only[lastGood,hlen,Nat.add_sub_cancel]
   rw[zBY]at this
   rw[this]
   rfl
 unfold acceptG
 rw[if_neg (by simp[hv]),if_neg]
 rw[Bool.not_eq_true,List.any_eq_false]
 intro i hi
 rcases hmem i hi with rfl|⟨x,hx,rfl⟩<;>simp
theorem zKc {t:List Nat} (hl:t.length≤12):PrgB ⟨seqI (intT t),0,true⟩:=by
 refine⟨by simp only[zEs,zBY];omega,fun i hi=>?_⟩
 rcases List.mem_append.1 hi with h|h
 ·obtain⟨y,hy,rfl⟩:=List.mem_map.1 h;simp
 ·obtain rfl:i=⟨0,0,0,0,[]⟩:=by simpa using h
  simp
theorem zG8 {t:List Nat} {xs:List RS} {fk:Bool} (hx:Explored (seqI (intT t)) xs fk):fk=false∧xs.length=t.length+1∧∃ syms,LeastTo (seqI (intT t)) (seqI (intT t)).length syms:=by
 obtain⟨syms,hs⟩:=zIo (seqI (intT t))
 have h1:=hx.2 syms hs
 have hin:∀(k:Nat) (x:Int),(intT t)[k]?=some x→x∈syms:=fun k x hk=>by
  have hi:=zE1 hk
  have hkl:=(List.getElem?_eq_some_iff.1 hi).1
  have:=hs.has k _ hkl hi rfl (by simp)
  simpa [keyI,hi] using this
 obtain⟨xs',h2,h3⟩:=zIf (t:=intT t) hin ((seqI (intT t)).length+1) 0 xs0 (by simp[xs0]) (Nat.zero_le _) (by rw[zEs];omega)
 rw[h1]at h2
 simp only[Prod.mk.injEq]at h2
 obtain⟨rfl,rfl⟩:=h2
 exact⟨rfl,by rw[h3,zBY],syms,hs⟩
end Go.Ev
