/- What functions of the program compute; no further conditions. -/
import Derived.Test.YtmfpcondongbjaaGreatM19
import Derived.Test.YtmfpcondongbjaaGreatM18
set_option linter.unusedVariables false
set_option linter.unusedSimpArgs false
open Nat (add_mul le_refl le_trans succ_mul)
open List (all_append length_nil mem_append mem_cons mem_range)
open Bool (and_eq_true or_eq_true)
open Go.Proofs Go.RowKit Go.IntWalk
set_option maxHeartbeats 8000000
set_option maxRecDepth 100000
namespace Go.Ev
attribute [local go_sem] BM evBin evBuild evMakeSlice AV.cells AV.ok splice Ae Al bndO bnd evEq eqCells not_false_eq_true not_true_eq_false AX Array.size_empty List.length_append List.map_append tySzE List.head?_drop Nat.mul_one AQ AU AO AR AS AY
section
attribute [local go_sem] evAppend
theorem en49 (vs:Array Value) (w:World):(callFunc 54 vs).run Pg w=.ok (.enter 54 vs) w:=Hu Tryz.func54 rfl rfl vs w
abbrev Law49 (ins:List Int) (s:Value) (re:Re):Prop:=
 ∀ I w vs,Val I w->SliceOk I w s ins->RepL I [] [.pt (reC re),pinOf s] vs->Calls Pg 54 vs w (fun e w'=>e=.returned (.bool (compG ins re))/\Fr (spOf s) w w')
theorem f49a (caps top:Int):∀(N:Nat) (re:Re) (ins:List Int),re.wt<=N->re.wt<=1000000->ins.length+re.wt<=2000000->wholeG caps top re=true->∀ s,Law49 ins s re
 | 0,r,_,h,_,_,_,_=>by have:=r.wt_pos;omega
 | N+1,.mk op set kids mn mx md n neg,ins,h,hN,hI,hw,s=>by
   intro I w vs hv hs hr;have hkl:=Re.wtL_len kids;have hwt:1+set.length+Re.wtL kids=(Re.mk op set kids mn mx md n neg).wt:=by simp[Re.wt]
   obtain⟨hwk,hkd,hrp,_,ho1,ho2⟩:=BG hw;have ih:=fun k (hk:k∈kids) (ins':List Int) (hi:ins'.length<=ins.length+1)=>f49a caps top N k ins' (by have:=Re.wtL_mem hk;omega) (by have:=Re.wtL_mem hk;omega) (by have:=Re.wtL_mem hk;omega) (hwk k hk);have h105:=fun k (hk:k∈kids)=>Sp k (by have:=Re.wtL_mem hk;omega) caps top (hwk k hk);have h106:=So ins n (by omega);refine calls_of_wp Tryz.func54 rfl ?_;rw[show reC (.mk op set kids mn mx md n neg)=nodeL op set kids mn mx md n neg from Bl]at hr;have h0:HSt I w (spOf s) 65 [(1,pinOf s),(0,.pt (nodeL op set kids mn mx md n neg))] _ w:=HSt.init (m:=65) hv hs.has hr;have hsp:∀ k o,spOf s=some (k,o)->k<w.heap.size:=fun k o e=>by
    obtain⟨cs,T,e⟩:=hs.has k o e;exact(Array.getElem?_eq_some_iff.1 e).1
   have hpin:=(hs.pin (J:=I) (L:=[])).2.1;have hret:∀ a' w',Fr (spOf s) w w'->a'.defers=[]->a'.tmps.getD 4 undef=.bool (compG ins (.mk op set kids mn mx md n neg))->bodyPost Pg Tryz.f54 (fun e w'=>e=.returned (.bool (compG ins (.mk op set kids mn mx md n neg)))/\Fr (spOf s) w w') .ret a' w':=by
    intro a' w' g1 g2 g3;exact⟨g2,_,by rw[KU (d:=4) rfl,g3],rfl,g1⟩
   generalize bodyPost Pg Tryz.f54 (fun e w'=>e=.returned (.bool (compG ins (.mk op set kids mn mx md n neg)))/\Fr (spOf s) w w')=Q at hret |-;have hu1:AV.underL 0 (set.map spanAV)=true:=AE 0 _ (AG set);have hu2:AV.underL 0 (kids.map reAV)=true:=AE 0 _ (AN kids);refine wp_seq_k fun K hK=>?_;refine h0.W ok1 B4 BL hsp (mu:=pol1.muts 54) (m:=cfgOf pol1 54 0) ?_;simp +contextual (disch:=omega) only[Tryz.f54,dd54,go_sem,simprocAttr,mu54,↓AD,↓AC,↓AB,↓AA,AV.underL,AV.under,hpin,hu1,hu2,exOf];refine fun a1 w1 h1=>hK _ _ ?_;clear hK K;refine wp_seq_k fun K hK=>?_
   have hrest:∀ I1 w1 s1 ins1 a2 w2 t,SliceOk I1 w1 s1 ins1->Fr (spOf s) w w1->SpLe w.heap.size (spOf s) (spOf s1)->HSt I1 w1 (spOf s1) 65 t a2 w2->List.Sublist [(1,pinOf s1),(0,.pt (nodeL op set kids mn mx md n neg))] t ->
     ins1.length<=ins.length+1->compG ins (.mk op set kids mn mx md n neg)=compL ins1 kids->K a2 w2:=by
    intro I1 w1 s1 ins1 a2 w2 t hs1 hfr hle h2 hsub hlen hcomp;refine hK a2 w2 ?_
    replace h2:=h2.sub hsub
    clear hK hsub;have hsp1:∀ k o,spOf s1=some (k,o)->k<w1.heap.size:=fun k o e=>by
     obtain⟨cs,T,e⟩:=hs1.has k o e;exact(Array.getElem?_eq_some_iff.1 e).1
    have hpin1:=(hs1.pin (J:=I) (L:=[])).2.1;refine wp_seq_k fun K hK=>?_;refine wp_seq_k fun K2 hK2=>?_;refine h2.W ok1 B4 BL hsp1 (mu:=pol1.muts 54) (m:=cfgOf pol1 54 0) ?_;simp +contextual (disch:=omega) only[Tryz.f54,dd54,go_sem,simprocAttr,mu54,↓AD,↓AC,↓AB,↓AA,AV.underL,AV.under,hpin1,hu1,hu2,exOf];refine fun a3 w3 h3=>hK2 _ _ ?_;clear hK2 K2;refine wp_block ?_;refine H7 (fun i a w=>(∀ j k,j<i->kids[j]?=some k->compG ins1 k=true)/\HSt I1 w1 (spOf s1) 65 [(52,Go.Ev.I i),(51,Go.Ev.I kids.length),(1,pinOf s1),(0,.pt (nodeL op set kids mn mx md n neg))] a w) kids.length ?_ ?_ ⟨fun j k h=>by omega,h3⟩
    ·rintro i a4 w4 hi ⟨hall,h4⟩;obtain⟨k,hk⟩:∃ k,kids[i]?=some k:=⟨_,List.getElem?_eq_getElem hi⟩;have hkm:=List.mem_of_getElem? hk;refine wp_seq_k fun K3 hK3=>?_;refine h4.W ok1 B4 BL hsp1 (mu:=pol1.muts 54) (m:=cfgOf pol1 54 0) ?_;simp +contextual (disch:=omega) only[Tryz.f54,dd54,go_sem,simprocAttr,mu54,↓AD,↓AC,↓AB,↓AA,AV.underL,AV.under,hpin1,hu1,hu2,exOf];refine fun a5 w5 h5=>hK3 _ _ ?_;clear hK3 K3;refine wp_seq_k fun K3 hK3=>?_;refine h5.W ok1 B4 BL hsp1 (mu:=pol1.muts 54) (m:=cfgOf pol1 54 0) ?_;simp +contextual (disch:=omega) only[Tryz.f54,dd54,go_sem,simprocAttr,mu54,↓AD,↓AC,↓AB,↓AA,AV.underL,AV.under,hpin1,hu1,hu2,exOf];refine fun a6 w6 h6=>hK3 _ _ ?_;clear hK3 K3;refine wp_seq_k fun K3 hK3=>?_;refine wp_block ?_;refine wp_seq_k fun K4 hK4=>?_;refine h6.W ok1 B4 BL hsp1 (mu:=pol1.muts 54) (m:=cfgOf pol1 54 0) ?_;simp +contextual (disch:=omega) only[Tryz.f54,dd54,go_sem,simprocAttr,mu54,↓AD,↓AC,↓AB,↓AA,AV.underL,AV.under,hpin1,hu1,hu2,exOf];refine fun a7 w7 h7=>hK4 _ _ ?_;clear hK4 K4;refine wp_seq_k fun K4 hK4=>?_;refine CD ?_;refine h7.ops ok1 hsp1 (mu:=pol1.muts 54) 7 ?_;have hl8:=AM k;simp +contextual (disch:=omega) only[Tryz.f54,dd54,go_sem,simprocAttr,mu54,↓AD,↓AC,↓AB,↓AA,AV.underL,AV.under,hpin1,hu1,hu2,exOf,hk,hl8];have huk:AV.underL 0 (reC k)=true:=AE 0 _ (Ad k);refine⟨huk,fun a8 w8 h8=>?_⟩;refine h8.callB hs1 en49 (l:=[.pt (reC k),pinOf s1]) rfl (ih k hkm ins1 hlen s1) (fun a9 w9 h9=>?_);cases hck:compG ins1 k with
     | true=>
       rw[hck]at h9;refine h9.ops ok1 hsp1 (mu:=pol1.muts 54) 1 ?_;simp +contextual (disch:=omega) only[Tryz.f54,dd54,go_sem,simprocAttr,mu54,↓AD,↓AC,↓AB,↓AA,AV.underL,AV.under,hpin1,hu1,hu2,huk,exOf,hk,hl8];refine fun a10 w10 h10=>hK4 _ _ ?_;clear hK4 K4;refine h10.W ok1 B4 BL hsp1 (mu:=pol1.muts 54) (m:=cfgOf pol1 54 0) ?_;simp +contextual (disch:=omega) only[Tryz.f54,dd54,go_sem,simprocAttr,mu54,↓AD,↓AC,↓AB,↓AA,AV.underL,AV.under,hpin1,hu1,hu2,huk,exOf];refine fun a11 w11 h11=>hK3 _ _ ?_;clear hK3 K3;refine h11.W ok1 B4 BL hsp1 (mu:=pol1.muts 54) (m:=cfgOf pol1 54 0) ?_;have hJ:∀(j:Nat) (k:Re),j<i+1->kids[j]?=some k->compG ins1 k=true:=fun j k2 h1 h2=>by
        rcases Nat.lt_or_ge j i with h|h
        ·exact hall j k2 h h2
        ·obtain rfl:j=i:=by omega
         rw[hk]at h2;obtain rfl:=Option.some.inj h2;exact hck
       generalize hJd:(∀(j:Nat) (k:Re),j<i+1->kids[j]?=some k->compG ins1 k=true)=J at hJ |-;simp +contextual (disch:=omega) only[Tryz.f54,dd54,go_sem,simprocAttr,mu54,↓AD,↓AC,↓AB,↓AA,AV.underL,AV.under,hpin1,hu1,hu2,huk,exOf]
       exact fun a12 w12 h12=>⟨hJ,h12.sub (by iterate 9 refine .cons _ ?_
                                              exact .cons_cons _ (.cons_cons _ (.cons _ (.refl _))))⟩
     | false=>
       rw[hck]at h9;refine h9.ops ok1 hsp1 (mu:=pol1.muts 54) 1 ?_;simp +contextual (disch:=omega) only[Tryz.f54,dd54,go_sem,simprocAttr,mu54,↓AD,↓AC,↓AB,↓AA,AV.underL,AV.under,hpin1,hu1,hu2,huk,exOf,hk,hl8];refine fun a10 w10 h10=>hK4 _ _ ?_;clear hK4 K4;refine h10.W ok1 B4 BL hsp1 (mu:=pol1.muts 54) (m:=cfgOf pol1 54 0) ?_;simp +contextual (disch:=omega) only[Tryz.f54,dd54,go_sem,simprocAttr,mu54,↓AD,↓AC,↓AB,↓AA,AV.underL,AV.under,hpin1,hu1,hu2,huk,exOf];refine fun a11 w11 h11=>?_;obtain⟨g1,g2,g3⟩:=h11.done (d:=4) rfl;exact hret a11 w11 (hfr.thenS g1 hle) g2 (by rw[g3,hcomp,Ct hkm hck])
    ·rintro a4 w4 ⟨hall,h4⟩;refine wp_seq_k fun K3 hK3=>?_;refine h4.W ok1 B4 BL hsp1 (mu:=pol1.muts 54) (m:=cfgOf pol1 54 0) ?_;simp +contextual (disch:=omega) only[Tryz.f54,dd54,go_sem,simprocAttr,mu54,↓AD,↓AC,↓AB,↓AA,AV.underL,AV.under,hpin1,hu1,hu2,exOf];refine fun a5 w5 h5=>hK3 _ _ ?_;clear hK3 K3;refine wp_seq_k fun K3 hK3=>?_;refine h5.W ok1 B4 BL hsp1 (mu:=pol1.muts 54) (m:=cfgOf pol1 54 0) ?_;simp +contextual (disch:=omega) only[Tryz.f54,dd54,go_sem,simprocAttr,mu54,↓AD,↓AC,↓AB,↓AA,AV.underL,AV.under,hpin1,hu1,hu2,exOf];refine fun a6 w6 h6=>hK _ _ ?_;clear hK3 K3 hK;refine h6.W ok1 B4 BL hsp1 (mu:=pol1.muts 54) (m:=cfgOf pol1 54 0) ?_;simp +contextual (disch:=omega) only[Tryz.f54,dd54,go_sem,simprocAttr,mu54,↓AD,↓AC,↓AB,↓AA,AV.underL,AV.under,hpin1,hu1,hu2,exOf];refine fun a7 w7 h7=>?_;obtain⟨g1,g2,g3⟩:=h7.done (d:=4) rfl;exact hret a7 w7 (hfr.thenS g1 hle) g2 (by rw[g3,hcomp,DN (fun i k h1 h2=>hall i k h1 h2)])
   clear hK;refine wp_seq_k fun K2 hK2=>?_;refine h1.W ok1 B4 BL hsp (mu:=pol1.muts 54) (m:=cfgOf pol1 54 0) ?_;simp +contextual (disch:=omega) only[Tryz.f54,dd54,go_sem,simprocAttr,mu54,↓AD,↓AC,↓AB,↓AA,AV.underL,AV.under,hpin,hu1,hu2,exOf];refine fun a2 w2 h2=>hK2 _ _ ?_;clear hK2 K2;refine wp_block ?_;by_cases h5:op=5
   ·subst h5;refine wp_seq_k fun K2 hK2=>?_;refine h2.W ok1 B4 BL hsp (mu:=pol1.muts 54) (m:=cfgOf pol1 54 0) ?_;simp +contextual (disch:=omega) only[Tryz.f54,dd54,go_sem,simprocAttr,mu54,↓AD,↓AC,↓AB,↓AA,AV.underL,AV.under,hpin,hu1,hu2,exOf];refine fun a3 w3 h3=>hK2 _ _ ?_;clear hK2 K2;refine h3.cond (b:=false) rfl ?_;rw[if_neg Bool.false_ne_true];refine wp_seq_k fun K2 hK2=>?_;refine h3.W ok1 B4 BL hsp (mu:=pol1.muts 54) (m:=cfgOf pol1 54 0) ?_;simp +contextual (disch:=omega) only[Tryz.f54,dd54,go_sem,simprocAttr,mu54,↓AD,↓AC,↓AB,↓AA,AV.underL,AV.under,hpin,hu1,hu2,exOf];refine fun a4 w4 h4=>hK2 _ _ ?_;clear hK2 K2;refine h4.cond (b:=false) rfl ?_;rw[if_neg Bool.false_ne_true];refine wp_seq_k fun K2 hK2=>?_;refine h4.W ok1 B4 BL hsp (mu:=pol1.muts 54) (m:=cfgOf pol1 54 0) ?_;simp +contextual (disch:=omega) only[Tryz.f54,dd54,go_sem,simprocAttr,mu54,↓AD,↓AC,↓AB,↓AA,AV.underL,AV.under,hpin,hu1,hu2,exOf];refine fun a5 w5 h5=>hK2 _ _ ?_;clear hK2 K2;refine h5.cond (b:=true) rfl ?_;rw[if_pos rfl];refine wp_seq_k fun K2 hK2=>?_;refine wp_seq_k fun K3 hK3=>?_;refine CD ?_;refine h5.ops ok1 hsp (mu:=pol1.muts 54) 1 ?_;simp +contextual (disch:=omega) only[Tryz.f54,dd54,go_sem,simprocAttr,mu54,↓AD,↓AC,↓AB,↓AA,AV.underL,AV.under,hpin,hu1,hu2,exOf];refine fun a6 w6 h6=>?_;have h6':HSt I w (spOf s) 65 [(34,.sl false (ins.map Go.Ev.I)),(32,.bool true),(1,pinOf s),(0,.pt (nodeL 5 set kids mn mx md n neg))] a6 w6:=h6.seen hs (d:=34) rfl;clear h6;have hu3:AV.underL 0 (ins.map Go.Ev.I)=true:=AE 0 _ (AF ins);refine h6'.ops ok1 hsp (mu:=pol1.muts 54) 5 ?_;by_cases hm:n∈ins
    ·rw[decide_eq_true hm]at h106;simp +contextual (disch:=omega) only[Tryz.f54,dd54,go_sem,simprocAttr,mu54,↓AD,↓AC,↓AB,↓AA,AV.underL,AV.under,hpin,hu1,hu2,hu3,h106,exOf];refine fun a7 w7 h7=>hK3 _ _ ?_;clear hK3 K3;refine h7.W ok1 B4 BL hsp (mu:=pol1.muts 54) (m:=cfgOf pol1 54 0) ?_;simp +contextual (disch:=omega) only[Tryz.f54,dd54,go_sem,simprocAttr,mu54,↓AD,↓AC,↓AB,↓AA,AV.underL,AV.under,hpin,hu1,hu2,hu3,exOf];refine fun a8 w8 h8=>?_;obtain⟨g1,g2,g3⟩:=h8.done (d:=4) rfl;exact hret a8 w8 g1 g2 (by rw[g3,compG,if_neg (by omega),if_pos rfl,if_pos hm])
    ·rw[decide_eq_false hm]at h106;simp +contextual (disch:=omega) only[Tryz.f54,dd54,go_sem,simprocAttr,mu54,↓AD,↓AC,↓AB,↓AA,AV.underL,AV.under,hpin,hu1,hu2,hu3,h106,exOf];refine fun a7 w7 h7=>hK3 _ _ ?_;clear hK3 K3;refine h7.W ok1 B4 BL hsp (mu:=pol1.muts 54) (m:=cfgOf pol1 54 0) ?_;simp +contextual (disch:=omega) only[Tryz.f54,dd54,go_sem,simprocAttr,mu54,↓AD,↓AC,↓AB,↓AA,AV.underL,AV.under,hpin,hu1,hu2,hu3,exOf];refine fun a8 w8 h8=>hK2 _ _ ?_;clear hK2 K2;refine CD ?_;refine h8.ops ok1 hsp (mu:=pol1.muts 54) 6 ?_;simp +contextual (disch:=omega) only[Tryz.f54,dd54,go_sem,simprocAttr,mu54,↓AD,↓AC,↓AB,↓AA,AV.underL,AV.under,hpin,hu1,hu2,hu3,exOf];refine fun a9 w9 h9=>?_;refine h9.append1 (e:=3) (by_:=8) (ze:=.int .i64 0) (tt:=true) (m:=n) (by kernel_rfl) (by kernel_rfl) (by kernel_rfl) (by kernel_rfl) (by kernel_rfl) rfl hs rfl rfl (AY (by omega) (by omega)) ?_;intro I1 w1 u a10 hs1 hfr hle hgr h10;have hpin1:=(hs1.pin (J:=I) (L:=[])).2.1;have hsp1:∀ k o,spOf u=some (k,o)->k<w1.heap.size:=fun k o e=>by
      obtain⟨cs,T,e⟩:=hs1.has k o e;exact(Array.getElem?_eq_some_iff.1 e).1
     refine h10.ops ok1 hsp1 (mu:=pol1.muts 54) 1 ?_;simp +contextual (disch:=omega) only[Tryz.f54,dd54,go_sem,simprocAttr,mu54,↓AD,↓AC,↓AB,↓AA,AV.underL,AV.under,hpin,hpin1,hu1,hu2,hu3,exOf];refine fun a11 w11 h11=>hrest I1 w1 u (ins++[n]) a11 w11 _ hs1 hfr hle h11 ?_ (by simp) (by rw[compG,if_neg (by omega),if_pos rfl,if_neg hm])
     iterate 14 refine .cons _ ?_
     exact .refl _
   ·have hgo:¬(op=4/\(md=2∨nullHd kids=true))->¬(5<op/\op≠11)->∀ t,List.Sublist [(1,pinOf s),(0,AV.pt (nodeL op set kids mn mx md n neg))] t->∀ a' w',HSt I w (spOf s) 65 t a' w'->K a' w':=fun e1 e2 t ht a' w' h=>
     hrest I w s ins a' w' t hs (.refl hs.has) (SpLe.self _ _) h ht (by omega) (by rw[compG,if_neg e1,if_neg h5,if_neg e2])
    have hno:(op=4/\(md=2∨nullHd kids=true))∨(5<op/\op≠11)->∀ t,look t 4=some (.bool false)->∀ a' w',HSt I w (spOf s) 65 t a' w'->Q .ret a' w':=fun e t ht a' w' h=>by
     obtain⟨g1,g2,g3⟩:=h.done ht;refine hret a' w' g1 g2 ?_;rw[g3,compG];rcases e with e|e
     ·rw[if_pos e]
     ·rw[if_neg (by omega),if_neg h5,if_pos e]
    have sub1:∀ x y:Nat×AV,List.Sublist [(1,pinOf s),(0,AV.pt (nodeL op set kids mn mx md n neg))] [x,y,(1,pinOf s),(0,.pt (nodeL op set kids mn mx md n neg))]:=fun x y=>.cons _ (.cons _ (.refl _));by_cases h4:op=4
    ·subst h4;have hk1:kids.length=1:=by simpa [kidsG] using hkd
     match kids,hk1 with
     | [k],_=>
       have h105k:=h105 k (List.mem_singleton.2 rfl);have hl8:=AM k;have ht8:=AZ k;cases hn:nullG k with
       | true=>
         rw[hn]at h105k;have hnn:nullHd [k]=true:=hn;refine h2.W ok1 B4 BL hsp (mu:=pol1.muts 54) (m:=cfgOf pol1 54 0) ?_;simp +contextual (disch:=omega) only[Tryz.f54,dd54,go_sem,simprocAttr,mu54,↓AD,↓AC,↓AB,↓AA,AV.underL,AV.under,hpin,hu1,hu2,exOf,h105k,hl8,ht8];exact⟨fun _=>hno (.inl ⟨rfl,.inr hnn⟩) _ rfl,fun _=>hno (.inl ⟨rfl,.inr hnn⟩) _ rfl⟩
       | false=>
         rw[hn]at h105k;have hnn:¬ nullHd [k]=true:=by rw[show nullHd [k]=false from hn];exact Bool.false_ne_true
         refine h2.W ok1 B4 BL hsp (mu:=pol1.muts 54) (m:=cfgOf pol1 54 0) ?_;simp +contextual (disch:=omega) only[Tryz.f54,dd54,go_sem,simprocAttr,mu54,↓AD,↓AC,↓AB,↓AA,AV.underL,AV.under,hpin,hu1,hu2,exOf,h105k,hl8,ht8];refine⟨fun e=>hno (.inl ⟨rfl,.inl e⟩) _ rfl,fun e=>⟨AE 0 _ (Ad k),hgo (fun h=>h.2.elim e hnn) (by omega) _ (.cons _ (.refl _))⟩⟩
    ·refine h2.W ok1 B4 BL hsp (mu:=pol1.muts 54) (m:=cfgOf pol1 54 0) ?_;simp +contextual (disch:=omega) only[Tryz.f54,dd54,go_sem,simprocAttr,mu54,↓AD,↓AC,↓AB,↓AA,AV.underL,AV.under,hpin,hu1,hu2,exOf,h4,h5];have sub1:∀ x y:Nat×AV,List.Sublist [(1,pinOf s),(0,AV.pt (nodeL op set kids mn mx md n neg))] [x,y,(1,pinOf s),(0,.pt (nodeL op set kids mn mx md n neg))]:=fun x y=>.cons _ (.cons _ (.refl _));refine⟨fun e=>?_,fun e0=>⟨fun e=>?_,fun e1=>⟨fun e=>?_,fun e11=>⟨fun e=>?_,fun e2=>⟨fun e=>?_,fun e3=>hno (.inr ⟨by omega,e11⟩) _ rfl⟩⟩⟩⟩⟩
     all_goals subst e;exact hgo (by omega) (by omega) _ (.cons _ (.cons _ (.refl _)))
theorem Pj (caps top:Int) (re:Re) (hN:re.wt<=1000000) (hw:wholeG caps top re=true):CallSound Pg 54 [.pt (reC re),.sl true []] [] (.bool (compG [] re)) []:=by
 refine⟨en49,fun B0 w0 w I L vs hi hus=>?_⟩;have hL:L=[]:=List.length_eq_zero_iff.1 hi.len;subst hL;have h0:=hus.2 0 _ rfl;have h1:=hus.2 1 _ rfl;generalize hs:vs.getD 1 undef=s at h1;have hsl:SliceOk I w s []/\spOf s=none:=by
  cases h1 with
  | nilsl t=>exact⟨.inl ⟨rfl,rfl⟩,rfl⟩
  | sl t xs b o c k f hc ht hk hI hR=>
    have:c=0:=ht rfl;subst this;exact⟨.inr ⟨b,o,0,rfl,le_refl _,fun h=>absurd h (by simp),fun i x h=>by simp at h,fun h=>absurd h (by simp)⟩,rfl⟩
 obtain⟨hs1,hs2⟩:=hsl;have hr:RepL I [] [.pt (reC re),pinOf s] vs:=by
  refine⟨hus.1,fun i y hy=>?_⟩
  match i,hy with
  | 0,hy=>simp at hy;subst hy;exact h0
  | 1,hy=>simp at hy;subst hy;rw[hs];exact(hs1.pin (J:=I) (L:=[])).1
 refine(f49a caps top re.wt re [] (le_refl _) hN (by simp;omega) hw s I w vs hi.imm hs1 hr).mono ?_;rintro e w' ⟨rfl,hf⟩;have hv:=hf.val hs1.free hi.imm;rw[hs2]at hf;refine⟨.bool _,I,[],rfl,⟨hi.below.trans ⟨⟨hf.os,hf.tape,hf.output,hf.size,fun k hk=>hf.same k (Nat.lt_of_lt_of_le hk hi.base) (fun o h=>by cases h)⟩,hf.drawn⟩,le_trans hi.base hf.size,rfl,fun _ _ _ h=>by simp at h,fun _ _ _ _ h=>by simp at h,hv,hi.old⟩,.refl _ _,.bool _⟩
theorem f49 (caps top:Int) (re:Re) (hN:re.wt<=1000000) (hw:wholeG caps top re=true) (H:List MB):call Pg pol1 54 [.pt (reC re),.sl true []] H=some (.bool (compG [] re),H):=by
 have he:=O6 (Pj caps top re hN hw);have hfz:frzArgs pol1 54 0 [.pt (reC re),.sl true []] H=some ([.pt (reC re),.sl true []],H):=AL H _ 0 (by
  have:AV.plain (.pt (reC re))=true:=by simp[AV.plain,Ad]
  simp only[mixOk,this,Bool.or_true,Bool.true_and];rfl)
 have hu:AV.underL 0 [.pt (reC re),.sl true []]=true:=by simp[AV.underL,AV.under,AE,Ad]
 rw[BO];unfold evStep;rw[if_pos (show pol1.pure 54=true from rfl),hfz];simp only[hu,if_true];unfold evBody;rw[show pol1.ext 54=some ext49 from rfl];simp only[he];rfl
end
section
theorem f14 (p:Pat) (hw:p.re.wt<=1000000) (H:List MB):call Pg pol1 25 [patAV p] H=some (.tup [prgAV (compP p).1,I (compP p).2],H):=by
 have h48:=f48 p hw;obtain⟨re,caps,runes⟩:=p;simp only at hw;have hl8:=AM re;have hpl:=Az ⟨re,caps,runes⟩;have hget8:(reC re++[I caps,.bool runes])[8]?=some (I caps):=by rw[List.getElem?_append_right (by omega),hl8];rfl
 have hget9:(reC re++[I caps,.bool runes])[9]?=some (.bool runes):=by rw[List.getElem?_append_right (by omega),hl8];rfl
 have hdr:∀ l,(reC re++l).drop 8=l:=fun l=>by rw[List.drop_append_of_le_length (by omega),List.drop_of_length_le (by omega)];rfl
 have hdr9:(reC re++[I caps,.bool runes]).drop 9=[.bool runes]:=by rw[show (9:Nat)=8+1 from rfl,<- List.drop_drop,hdr];rfl
 have htk8:∀ l,List.take 8 (reC re++l)=reC re:=fun l=>by
  rw[List.take_append_of_le_length (by omega)];exact List.take_of_length_le (by omega)
 have hall:=Ay re;have hz:∀ b,fz (.rf 0 1 0 0) [.row 10 [.agg (reC re++[I caps,.bool runes])] 0,b]=some (.pt (reC re++[I caps,.bool runes]),[.row 10 [.agg (reC re++[I caps,.bool runes])] 1,b]):=fun b=>
  HV (x:=.agg (reC re++[I caps,.bool runes])) (k:=10) (z:=0) rfl rfl rfl hpl
 have ht10:List.take 10 (patC ⟨re,caps,runes⟩)=patC ⟨re,caps,runes⟩:=List.take_of_length_le (by simp[hl8]);have hlen:(reC re).length+(0+1+1)=10:=by omega
 have hpl2:∀ x:Prg×Int,AV.plain (.tup [prgAV x.1,I x.2])=true:=fun x=>by simp[AV.plain,AV.plainL,AH]
 refine AT Tryz.func25 rfl rfl rfl rfl rfl rfl (fun _=>rfl) (by simp[AV.plainL,AV.plain];exact Az _) (hpl2 _) ?_ H;unfold compP;by_cases hv:validP ⟨re,caps,runes⟩=0
 ·rw[if_pos hv];obtain⟨hsz,hdp,hc0,hc9,hwg⟩:=CR hv;simp only at hc0 hc9 hwg;rw[hv]at h48;have h49:=f49 _ _ re hw hwg;have h50:=f50 _ _ re.wt re (le_refl _) hw hwg;cases hc:compG [] re with
  | false=>
    rw[hc]at h49;rw[if_neg Bool.false_ne_true];simp +contextual (disch:=omega) only[Tryz.f25,dd25,go_sem,simprocAttr,evAppend,mu25,↓AD,↓AC,↓AB,↓AA,h48,h49,hz,ht10,hl8,hlen,hget8,hget9,hall,htk8,all_append,lookD,look];exact⟨_,rfl⟩
  | true=>
    rw[hc]at h49;rw[if_pos rfl];by_cases hL:lenG re+1<=8192
    ·rw[if_pos hL];have hg:GoodC caps (topI runes) re:=⟨hwg,Ci re [] hc⟩;have h51:=f51 caps (topI runes) (by omega) re hw hg (by omega);have hlc:=BH caps (topI runes) re 0 hg;rw[Nat.min_eq_left (by omega)]at h50;generalize codeG re 0=C at *;have hap:=fun b0 b1 x=>LL (H:=[b0,b1,.row 5 (C.map insAV) 0]) (i:=2) (n:=lenG re) (t:=true) (y:=.agg [I 0,I 0,I 0,I 0,.sl true x]) rfl (by rw[List.length_map];exact hlc) rfl (Nat.zero_le _) (by omega);simp +contextual (disch:=omega) only[Tryz.f25,dd25,go_sem,simprocAttr,mu25,↓AD,↓AC,↓AB,↓AA,h48,h49,h50,h51,hz,ht10,hl8,hlen,hget8,hget9,hall,htk8,hap,all_append,lookD,look];repeat' (first|intro _|apply And.intro|(unfold dOk;kernel_rfl)|(show (_||_)=true;kernel_rfl)|(show (_&&_)=true;kernel_rfl))
     have hk:∀ j H,fzL j (C.map insAV++[.agg [I 0,I 0,I 0,I 0,.sl true []]]) H=some ((C++[(⟨0,0,0,0,[]⟩:Ins)]).map insAV,H):=fun j H=>by
      rw[List.map_append];exact((HN C).append (.one fun H=>rfl)).fz H
     exact QO caps runes (by simp[hlc]) hk rfl
    ·rw[if_neg hL];simp +contextual (disch:=omega) only[Tryz.f25,dd25,go_sem,simprocAttr,evAppend,mu25,↓AD,↓AC,↓AB,↓AA,h48,h49,h50,hz,ht10,hl8,hlen,hget8,hget9,hall,htk8,all_append,lookD,look];exact⟨_,rfl⟩
 ·rw[if_neg hv];simp +contextual (disch:=omega) only[Tryz.f25,dd25,go_sem,simprocAttr,evAppend,mu25,↓AD,↓AC,↓AB,↓AA,h48,hv,hz,ht10,hl8,hlen,hget8,hget9,hall,htk8,all_append,lookD,look];exact⟨_,rfl⟩
end
section
attribute [local go_sem] evAppend
def g0:Prg:=⟨[⟨2,1,3,0,[]⟩,⟨1,0,0,0,[(97,97)]⟩,⟨3,4,0,0,[]⟩,⟨1,0,0,0,[(98,98)]⟩,⟨2,5,10,0,[]⟩,⟨2,6,8,0,[]⟩,⟨1,0,0,0,[(97,97)]⟩,⟨3,9,0,0,[]⟩,⟨1,0,0,0,[(98,98)]⟩,⟨3,4,0,0,[]⟩,⟨0,0,0,0,[]⟩],0,false⟩
end
section
attribute [local go_sem] evAppend
theorem BK (r:Re):(reC r).drop 8=[]:=List.drop_of_length_le (by rw[AM];omega)
theorem Mv (j:List AV->List MB->Option (List AV×List MB)) (a:Bool) {xs:List AV} (H:List MB) (hp:AV.plainL xs=true):fzA j (.sl a xs) H=some (.sl false xs,H):=by
 unfold fzA;rw[Be j xs H hp]
theorem Mt (a b:Bool) (op:Int) (set:List (Int×Int)) (kids:List Re) (mn mx md n:Int) (neg:Bool) (H:List MB) :
  fz (.agg [I op,.sl a (set.map spanAV),.sl b (kids.map reAV),I mn,I mx,I md,I n,.bool neg]) H=some (.agg [I op,.sl false (set.map spanAV),.sl false (kids.map reAV),I mn,I mx,I md,I n,.bool neg],H):=by
 simp only[fz,Jn,fzL,Mv _ _ _ (AG set),Mv _ _ _ (AN kids),EW];rfl
end
section
attribute [local go_sem] evAppend
theorem CA (r:Re):AV.plain (reAV r)=true:=Ad r
structure MS where
 at_:Int
 left:Int
 caps:Int
abbrev mkAV (l:List Int) (uses:Int) (s:MS):AV:=.agg [.sl false (l.map I),I s.at_,I uses,I s.left,I s.caps]
abbrev mH (b0:MB) (l:List Int) (uses:Int) (s:MS) (K:List MB):List MB:=b0::.row 5 [mkAV l uses s] 0::K
def nx (l:List Int) (n:Int) (s:MS):Int×MS:=(pickI l s.at_ n,⟨s.at_+1,s.left,s.caps⟩)
theorem Mo (n:Nat) (b0 x y:MB) (K L:List MB) (h:MB.under n y=true):keptOk n (b0::x::K) (b0::y::(K++L))=true:=by
 simp only[keptOk,MB.beq_refl,h,Bool.true_or,Bool.or_true,Bool.true_and];exact B1 n L K
theorem Ll {f:Nat} (hk:pol1.keep f=false) (ho:pol1.own f=false) {l:List Int}{uses:Int}{s s':MS}{b0:MB}{K L:List MB}{r r':AV} (hz:∀ H,fz r H=some (r',H)) (hp:AV.plain r' = true) :
  retPol pol1 f (mH b0 l uses s K) r (mH b0 l uses s' (K++L))=some (r',mH b0 l uses s' K):=by
 have h1:=Mo (mH b0 l uses s K).length b0 (.row 5 [mkAV l uses s] 0) (.row 5 [mkAV l uses s'] 0) K L (by simp[MB.under,AV.underL,AV.under,AE,AF]);unfold retPol;rw[if_neg (by rw[hk];exact Bool.false_ne_true),if_neg (by rw[ho];exact Bool.false_ne_true)];simp only[hz,AJ _ _ hp,h1,and_self,if_true];simp
theorem Ps {f:Nat} (hk:pol1.keep f=false) (ho:pol1.own f=false) {l:List Int}{uses:Int}{s s':MS}{b0:MB}{K:List MB}{r r':AV} (hz:∀ H,fz r H=some (r',H)) (hp:AV.plain r' = true) :
  retPol pol1 f (mH b0 l uses s K) r (mH b0 l uses s' K)=some (r',mH b0 l uses s' K):=by
 have:=Ll (L:=[]) hk ho (s:=s) (s':=s') (K:=K) (l:=l) (uses:=uses) (b0:=b0) hz hp
 rwa [List.append_nil]at this
theorem f97 (l:List Int) (hl:∀ x∈l,In64 x) (uses n:Int) (hn:n≠0) (s:MS) (hs:0<=s.at_/\s.at_<=1000000) (b0:MB) (K:List MB) :
  call Pg pol1 79 [.rf 1 1 0 0,I n] (mH b0 l uses s K)=some (I (nx l n s).1,mH b0 l uses (nx l n s).2 K):=by
 obtain⟨at_,left,caps⟩:=s;simp only at hs;have h57:=f57 l at_ n hl hn;have fr:frzArgs pol1 79 0 [.rf 1 1 0 0,I n] (mH b0 l uses ⟨at_,left,caps⟩ K)=some ([.rf 1 1 0 0,I n],mH b0 l uses ⟨at_,left,caps⟩ K):=AL _ _ _ rfl;refine AP (pol:=pol1) Tryz.func79 rfl rfl rfl rfl fr ?_;have hsub:at_+1-1=at_:=by omega
 simp +contextual (disch:=omega) only[Tryz.f79,dd79,go_sem,simprocAttr,mu79,↓AD,↓AC,↓AB,↓AA,h57,hsub];repeat' (first|intro _|apply And.intro|(unfold dOk;kernel_rfl)|(show (_||_)=true;kernel_rfl)|(show (_&&_)=true;kernel_rfl))
 exact Ps (s:=⟨at_,left,caps⟩) (s':=⟨at_+1,left,caps⟩) rfl rfl (fun H=>rfl) rfl
def smallS:List (List (Int×Int)):=[[(97,97)],[(98,98)],[(97,98)],[(99,99)],[(97,99)],[(0,96),(98,255)],[(10,10),(97,97)],[]]
def setM (l:List Int) (s:MS):Re×MS:=(.mk 1 (smallS.getD ((pickI l s.at_ 15).tdiv 2).toNat []) [] 0 0 0 0 false,⟨s.at_+1,s.left,s.caps⟩)
theorem f98 (l:List Int) (hl:∀ x∈l,In64 x) (uses:Int) (s:MS) (hs:0<=s.at_/\s.at_<=1000000) (b0:MB) (K:List MB) :
  call Pg pol1 80 [.rf 1 1 0 0] (mH b0 l uses s K)=some (reAV (setM l s).1,mH b0 l uses (setM l s).2 K):=by
 obtain⟨at_,left,caps⟩:=s;have h97:=fun K=>f97 l hl uses 15 (by omega) ⟨at_,left,caps⟩ hs b0 K;have fr:frzArgs pol1 80 0 [.rf 1 1 0 0] (mH b0 l uses ⟨at_,left,caps⟩ K)=some ([.rf 1 1 0 0],mH b0 l uses ⟨at_,left,caps⟩ K):=AL _ _ _ rfl;have hp:=Gb (l:=l) (i:=at_) (m:=15) (by omega);simp only[nx]at h97;unfold setM;simp only;generalize pickI l at_ 15=k at *;obtain⟨j,hj,hk⟩:∃ j:Nat,j<8/\k.tdiv 2=j:=⟨(k.tdiv 2).toNat,by rw[Int.tdiv_eq_ediv_of_nonneg hp.1];omega,by rw[Int.tdiv_eq_ediv_of_nonneg hp.1];omega⟩;have hw:IntKind.i64.wrap (k.tdiv 2)=(j:Int):=by rw[hk];exact i64_in _ ⟨by omega,by omega⟩
 rw[hk,Int.toNat_natCast];obtain⟨set,hset,hsj⟩:∃ set,[AV.sl true [.agg [I 97,I 97]],.sl true [.agg [I 98,I 98]],.sl true [.agg [I 97,I 98]],.sl true [.agg [I 99,I 99]],.sl true [.agg [I 97,I 99]],.sl true [.agg [I 0,I 96],.agg [I 98,I 255]],.sl true [.agg [I 10,I 10],.agg [I 97,I 97]],.sl true []][j]?=some (.sl true (set.map spanAV))/\smallS.getD j []=set:=by
  have:j=0∨j=1∨j=2∨j=3∨j=4∨j=5∨j=6∨j=7:=by omega
  rcases this with rfl|rfl|rfl|rfl|rfl|rfl|rfl|rfl<;>exact⟨_,rfl,rfl⟩
 rw[hsj];refine AP (pol:=pol1) Tryz.func80 rfl rfl rfl rfl fr ?_;simp +contextual (disch:=omega) only[Tryz.f80,dd80,go_sem,simprocAttr,mu80,↓AD,↓AC,↓AB,↓AA,h97,hw,hset,An,Av];exact Ll (s:=⟨at_,left,caps⟩) (s':=⟨at_+1,left,caps⟩) rfl rfl (Mt true true 1 set [] 0 0 0 0 false) (CA _)
def andI (a b:Int):Int:=IntKind.i64.wrap ((BitVec.ofInt 64 a &&& BitVec.ofInt 64 b).toNat)
theorem Bf (a b:Int):evBin .and .i64 a b=some (.int .i64 (andI a b)):=rfl
def stK (l:List Int) (tr:MS->Re×MS) (s:MS):Nat->List Re×MS
 | 0=>([],s)
 | i+1=>((stK l tr s i).1++[(tr (nx l 2 (stK l tr s i).2).2).1],(tr (nx l 2 (stK l tr s i).2).2).2)
def kidsF (l:List Int) (tr:MS->Re×MS) (s:MS):List Re×MS:=
 if(nx l 2 (stK l tr s 2).2).1=1 then((stK l tr s 3).1,(nx l 2 (stK l tr s 3).2).2) else((stK l tr s 2).1,(nx l 2 (stK l tr s 2).2).2)
def repF (l:List Int) (uses:Int) (tr:MS->Re×MS) (s:MS):Re×MS:=
 let k:=nx l 12 s
 let md:=nx l 2 k.2
 let m:Int×MS:=if 0<andI uses 8 then(if(nx l 4 md.2).1=0 then 2 else md.1,(nx l 4 md.2).2) else md
 let kid:=tr m.2
 let r:=if andI uses 32=0/\nullG kid.1=true then setM l kid.2 else kid
 (.mk 4 [] [r.1] (([0,0,0,0,1,1,1,0,2,0,1,2]:List Int).getD k.1.toNat 0) (([-1,-1,-1,1,-1,-1,2,2,2,3,1,-1]:List Int).getD k.1.toNat 0) m.1 0 false,r.2)
def capF (l:List Int) (tr:MS->Re×MS) (s:MS):Re×MS:=
 let p:Bool×MS:=if 4<s.caps+1 then(true,s) else if 0<s.caps then(decide ((nx l 9 s).1=0),(nx l 9 s).2) else(false,s)
 let q:Int×MS:=if p.1=true then(1+(nx l (max 1 p.2.caps) p.2).1,(nx l (max 1 p.2.caps) p.2).2) else(s.caps+1,p.2)
 let kid:=tr ⟨q.2.at_,q.2.left,max q.2.caps q.1⟩
 (.mk 5 [] [kid.1] 0 0 0 q.1 false,kid.2)
def leafF (l:List Int) (k:Int) (s:MS):Re×MS:=if k=0 then(.mk 0 [] [] 0 0 0 0 false,s) else setM l s
def treeStep (l:List Int) (uses:Int) (tr:MS->Re×MS) (k:Int) (s:MS):Re×MS:=
 if s.left<3∨(l.length:Int)<s.at_ then leafF l k s
 else if k<5 then(.mk 2 [] (kidsF l tr s).1 0 0 0 0 false,(kidsF l tr s).2)
 else if k<8 then(.mk 3 [] (kidsF l tr s).1 0 0 0 0 false,(kidsF l tr s).2)
 else if k<12 then repF l uses tr s
 else if(k=12∨k=13)/\0<andI uses 64 then capF l tr s
 else if k=14/\0<andI uses 16 then(.mk 11 [] [] 0 0 0 (nx l 6 s).1 false,(nx l 6 s).2)
 else if k=15/\0<andI uses 4 then
  (.mk (7+(nx l 2 (nx l 3 s).2).1) [] [(tr (nx l 2 (nx l 3 s).2).2).1] 0 0 0 0 ((nx l 3 s).1==0),(tr (nx l 2 (nx l 3 s).2).2).2)
 else if k=16/\0<andI uses 8 then(.mk 9 [] [(tr s).1] 0 0 0 0 false,(tr s).2)
 else if k=17/\0<andI uses 1/\0<s.caps then(.mk 6 [] [] 0 0 0 (1+(nx l s.caps s).1) false,(nx l s.caps s).2)
 else if k=18/\0<andI uses 2/\0<s.caps then
  (.mk 10 [] [(tr (nx l s.caps s).2).1,(tr (tr (nx l s.caps s).2).2).1] 0 0 0 (1+(nx l s.caps s).1) false,(tr (tr (nx l s.caps s).2).2).2)
 else setM l s
def treeF (l:List Int) (uses:Int):Nat->MS->Re×MS
 | 0,s=>leafF l (nx l 20 ⟨s.at_,s.left-1,s.caps⟩).1 (nx l 20 ⟨s.at_,s.left-1,s.caps⟩).2
 | d+1,s=>treeStep l uses (treeF l uses d) (nx l 20 ⟨s.at_,s.left-1,s.caps⟩).1 (nx l 20 ⟨s.at_,s.left-1,s.caps⟩).2
def mA1:Nat->Int
 | 0=>3
 | d+1=>9+3*mA1 d
def mS1:Nat->Int
 | 0=>1
 | d+1=>1+3*mS1 d
structure Pre (A S:Int) (s:MS):Prop where
 a:0<=s.at_/\s.at_+A<=1000000
 l:-1000000<=s.left-S/\s.left<=1000000
 c:0<=s.caps/\s.caps<=4
structure Post (A S:Int) (s s':MS):Prop where
 a:s.at_<=s'.at_/\s'.at_<=s.at_+A
 l:s.left-S<=s'.left/\s'.left<=s.left
 c:0<=s'.caps/\s'.caps<=4
theorem Bo (l:List Int) {n:Int} (hn:0<n) (s:MS):0<=(nx l n s).1/\(nx l n s).1<n:=Gb hn
theorem RR {H:List MB}{i n z:Nat}{els:List AV}{y:AV}{t:Bool} (hi:getRow H i=some (8,els,z)) (hn:els.length=n) (hy:(decide (y.cells.length=8)&&y.cells.all AV.ok)=true) (hz:z<=n) (hr:n+1<=4000000000) :
  evAppend Pg H 61 61 (.ms i 8 n 0 n) (.sl t [y])=some (.ms i 8 (n+1) 0 (n+1),H.set i (.row 8 (els++[y]) z)):=by
 have hs:srcElems Pg H 63 (.sl t [y])=some [y]:=rfl;rw[Bp (e:=63) (by kernel_rfl) (by kernel_rfl) (k:=8) (by kernel_rfl) (by_:=96) (by kernel_rfl) (ze:=.agg [I 0,.sl true [],.sl true [],I 0,I 0,I 0,I 0,.bool false]) (by kernel_rfl) rfl (by omega) hs (by simp only[List.all_cons,List.all_nil,hy,Bool.and_true]) hi hn hz (AY hr (by omega))];rfl
theorem OC {f:Nat} (hk:pol1.keep f=false) (ho:pol1.own f=false) {l:List Int}{uses:Int}{s s':MS}{b0:MB}{K:List MB}{ks:List Re}{n:Nat} (hn:ks.length=n) :
  retPol pol1 f (mH b0 l uses s K) (.ms (K.length+1+1) 8 n 0 n) (mH b0 l uses s' (K++[.row 8 (ks.map reAV) 0]))=some (.sl false (ks.map reAV),mH b0 l uses s' K):=by
 have hr:getRow (mH b0 l uses s' (K++[.row 8 (ks.map reAV) 0])) (K.length+1+1)=some (8,ks.map reAV,0):=by
  simp[getRow]
 have hz:fz (.ms (K.length+1+1) 8 n 0 n) (mH b0 l uses s' (K++[.row 8 (ks.map reAV) 0]))=some (.sl false (ks.map reAV),mH b0 l uses s' (K++[.row 8 (ks.map reAV) n])):=by
  rw[Dq hr (by rw[List.length_map];exact hn) (AN ks)];unfold mark;rw[hr];simp[Av]
 have h1:=Mo (mH b0 l uses s K).length b0 (.row 5 [mkAV l uses s] 0) (.row 5 [mkAV l uses s'] 0) K [.row 8 (ks.map reAV) n] (by simp[MB.under,AV.underL,AV.under,AE,AF]);unfold retPol;rw[if_neg (by rw[hk];exact Bool.false_ne_true),if_neg (by rw[ho];exact Bool.false_ne_true)];simp only[hz,AV.under,AE _ _ (AN ks),h1,and_self,if_true];simp
abbrev TreeLaw (l:List Int) (uses:Int) (d:Nat):Prop:=∀(s:MS) (b0:MB) (K:List MB),Pre (mA1 d) (mS1 d) s->call Pg pol1 52 [.rf 1 1 0 0,I d] (mH b0 l uses s K)=some (reAV (treeF l uses d s).1,mH b0 l uses (treeF l uses d s).2 K)
abbrev TreeB (l:List Int) (uses:Int) (d:Nat):Prop:=∀ s:MS,Pre (mA1 d) (mS1 d) s->Post (mA1 d) (mS1 d) s (treeF l uses d s).2
theorem Bi:∀ d,3<=mA1 d
 | 0=>by simp[mA1]
 | d+1=>by have:=Bi d;simp only[mA1];omega
theorem Bh:∀ d,1<=mS1 d
 | 0=>by simp[mS1]
 | d+1=>by have:=Bh d;simp only[mS1];omega
theorem Pre.step {A S:Int}{s s':MS}{A' S' x y:Int} (h:Pre A S s) (p:Post x y s s') (ha:A' + x<=A) (hs:S' + y<=S):Pre A' S' s':=by
 obtain⟨h1,h2,h3⟩:=h;obtain⟨p1,p2,p3⟩:=p;exact⟨by omega,by omega,p3⟩
theorem Post.trans {s s' s'':MS}{x y x' y':Int} (p:Post x y s s') (q:Post x' y' s' s''):Post (x+x') (y+y') s s'':=by
 obtain⟨p1,p2,p3⟩:=p;obtain⟨q1,q2,q3⟩:=q;exact⟨by omega,by omega,q3⟩
theorem Post.up {s s':MS}{x y x' y':Int} (p:Post x y s s') (hx:x<=x') (hy:y<=y'):Post x' y' s s':=by
 obtain⟨p1,p2,p3⟩:=p;exact⟨by omega,by omega,p3⟩
theorem Ax (l:List Int) (n:Int) (s:MS) (hc:0<=s.caps/\s.caps<=4):Post 1 0 s (nx l n s).2:=⟨by simp only[nx];omega,by simp only[nx];omega,hc⟩
theorem EN (l:List Int) (s:MS) (hc:0<=s.caps/\s.caps<=4):Post 1 0 s (setM l s).2:=⟨by simp only[setM];omega,by simp only[setM];omega,hc⟩
theorem FG {l:List Int}{uses:Int}{d:Nat} (hb:TreeB l uses d) {s:MS} (hp:Pre (5+3*mA1 d) (3*mS1 d) s):∀ i:Nat,i<=3->Post (i+i*mA1 d) (i*mS1 d) s (stK l (treeF l uses d) s i).2
 | 0,_=>⟨by simp[stK],by simp[stK],by simpa [stK] using hp.c⟩
 | i+1,hi=>by
   have p:=FG hb hp i (by omega);have:=Bi d;have:=Bh d;have e1:((i+1:Nat):Int)*mA1 d=i*mA1 d+mA1 d:=by rw[Int.natCast_add,Int.add_mul];simp
   have e2:((i+1:Nat):Int)*mS1 d=i*mS1 d+mS1 d:=by rw[Int.natCast_add,Int.add_mul];simp
   have e3:(i:Int)*mA1 d<=2*mA1 d:=Int.mul_le_mul_of_nonneg_right (by omega) (by omega);have e4:(i:Int)*mS1 d<=2*mS1 d:=Int.mul_le_mul_of_nonneg_right (by omega) (by omega);have q:=p.trans (Ax l 2 _ p.c);have r:=hb _ (hp.step q (by omega) (by omega));refine(q.trans r).up (by omega) (by omega)
theorem HL {l:List Int}{uses:Int}{d:Nat} (hb:TreeB l uses d) {s:MS} (hp:Pre (5+3*mA1 d) (3*mS1 d) s):Post (5+3*mA1 d) (3*mS1 d) s (kidsF l (treeF l uses d) s).2:=by
 have p2:=FG hb hp 2 (by omega);have p3:=FG hb hp 3 (by omega);have:=Bi d;have:=Bh d;unfold kidsF;split
 ·exact(p3.trans (Ax l 2 _ p3.c)).up (by omega) (by omega)
 ·exact(p2.trans (Ax l 2 _ p2.c)).up (by omega) (by omega)
theorem MT (l:List Int) (tr:MS->Re×MS) (s:MS):∀ i,(stK l tr s i).1.length=i
 | 0=>rfl
 | i+1=>by simp[stK,MT l tr s i]
def mW1:Nat->Nat
 | 0=>3
 | d+1=>1+3*mW1 d
theorem Mm:∀ d,3<=mW1 d
 | 0=>by simp[mW1]
 | d+1=>by have:=Mm d;simp only[mW1];omega
theorem Li (j:Nat):(smallS.getD j []).length<=2:=by
 rw[List.getD_eq_getElem?_getD];cases h:smallS[j]? with
 | none=>simp
 | some x=>
   have hm:=List.mem_of_getElem? h;have:∀ x∈smallS,x.length<=2:=by decide
   exact this x hm
theorem JR (l:List Int) (s:MS):(setM l s).1.wt<=3:=by
 have:=Li ((pickI l s.at_ 15).tdiv 2).toNat;simp only[setM,Re.wt,Re.wtL];omega
theorem Ki (l:List Int) (k:Int) (s:MS):(leafF l k s).1.wt<=3:=by
 unfold leafF;split
 ·simp[Re.wt,Re.wtL]
 ·exact JR l s
theorem Re.wtL_append:∀(a b:List Re),Re.wtL (a++b)=Re.wtL a+Re.wtL b
 | [],b=>by simp[Re.wtL]
 | k::ks,b=>by simp[Re.wtL,Re.wtL_append ks b];omega
theorem Ld {l:List Int}{tr:MS->Re×MS}{W:Nat} (h:∀ s,(tr s).1.wt<=W) (s:MS):∀ i,Re.wtL (stK l tr s i).1<=i*W
 | 0=>by simp[stK,Re.wtL]
 | i+1=>by
   have h1:=Ld (l:=l) h s i;have h2:=h (nx l 2 (stK l tr s i).2).2;simp only[stK,Re.wtL_append,Re.wtL,add_mul];omega
theorem Om {l:List Int}{tr:MS->Re×MS}{W:Nat} (h:∀ s,(tr s).1.wt<=W) (s:MS):Re.wtL (kidsF l tr s).1<=3*W:=by
 have h2:=Ld (l:=l) h s 2;have h3:=Ld (l:=l) h s 3;unfold kidsF;split
 ·exact h3
 ·simp only;omega
theorem Gs (l:List Int) (uses:Int):∀(d:Nat) (s:MS),(treeF l uses d s).1.wt<=mW1 d
 | 0,s=>Ki l _ _
 | d+1,s=>by
   have h:=Gs l uses d;have hp:=Mm d;simp only[treeF,mW1];generalize (nx l 20 ⟨s.at_,s.left-1,s.caps⟩).1=k;generalize (nx l 20 ⟨s.at_,s.left-1,s.caps⟩).2=s1;have hk:=Om (l:=l) h s1;have hl:=Ki l k s1;have hs:=JR l s1;generalize treeF l uses d=tr at *;have key:∀(c:Prop) [Decidable c] (x:Re×MS),x.1.wt<=mW1 d->(if c then setM l x.2 else x).1.wt<=mW1 d:=by
    intro c _ x hx;have:=JR l x.2;split
    ·omega
    ·exact hx
   have hr:(repF l uses tr s1).1.wt<=1+3*mW1 d:=by
    unfold repF;simp only[Re.wt,Re.wtL,length_nil];exact le_trans (Nat.add_le_add_left (Nat.add_le_add_right (key _ _ (h _)) 0) _) (by omega)
   have hc:(capF l tr s1).1.wt<=1+3*mW1 d:=by
    unfold capF;simp only[Re.wt,Re.wtL,length_nil];have:∀ s,(tr s).1.wt<=mW1 d:=h;refine le_trans (Nat.add_le_add_left (Nat.add_le_add_right (this _) 0) _) (by omega)
   unfold treeStep;repeat' split
   all_goals first|omega|(simp only[Re.wt,Re.wtL,length_nil];first|omega|(have:=h s1;omega)|(have:=h (nx l 2 (nx l 3 s1).2).2;omega)|(have:=h (nx l s1.caps s1).2;have:=h (tr (nx l s1.caps s1).2).2;omega))
end
mutual
def genG (cap:Bool):Re->Bool
 | .mk op set kids mn mx md n neg=>(decide (op=0∨op=1∨op=2∨op=3∨op=4∨op=11)||(cap&&decide (op=5)))&&decide (md=0∨md=1)&&!(decide (op=4)&&nullHd kids)&&genL cap kids
def genL (cap:Bool):List Re->Bool
 | []=>true
 | k::ks=>genG cap k&&genL cap ks
end
theorem HS (cap:Bool):∀ l:List Re,genL cap l=true↔∀ k∈l,genG cap k=true
 | []=>by simp[genL]
 | k::ks=>by simp[genL,HS cap ks]
mutual
theorem I5 (cap:Bool):∀ r:Re,genG cap r=true->codable r=true/\noPoss r=true/\lpG r=true
 | .mk op set kids mn mx md n neg,h=>by
   simp only[genG,and_eq_true,or_eq_true,decide_eq_true_eq]at h;obtain⟨a,b,c⟩:=HT cap kids h.2;refine⟨?_,?_,?_⟩
   ·rw[codable,a,Bool.and_true,or_eq_true,decide_eq_true_eq,beq_iff_eq];omega
   ·rw[noPoss,b,Bool.and_true,decide_eq_true_eq];omega
   ·rw[lpG,c,Bool.and_true];exact h.1.2
theorem HT (cap:Bool):∀ l:List Re,genL cap l=true->codableL l=true/\noPossL l=true/\lpL l=true
 | [],_=>⟨rfl,rfl,rfl⟩
 | k::ks,h=>by
   rw[genL,and_eq_true]at h;obtain⟨a,b,c⟩:=I5 cap k h.1;obtain⟨a',b',c'⟩:=HT cap ks h.2;exact⟨by rw[codableL,a,a'];rfl,by rw[noPossL,b,b'];rfl,by rw[lpL,c,c'];rfl⟩
end
mutual
theorem HR:∀(r:Re) (ins:List Int),genG false r=true->compG ins r=true
 | .mk op set kids mn mx md n neg,ins,h=>by
   simp only[genG,and_eq_true,or_eq_true,decide_eq_true_eq,Bool.false_and,Bool.false_eq_true,or_false]at h;have hk:=I6 kids ins h.2;have h4:=h.1.2;rw[compG,if_neg,if_neg (by omega),if_neg (by omega)]
   ·exact hk
   ·rintro⟨rfl,h5|h5⟩
    ·omega
    ·rw[h5]at h4;simp at h4
theorem I6:∀(l:List Re) (ins:List Int),genL false l=true->compL ins l=true
 | [],_,_=>rfl
 | k::ks,ins,h=>by
   rw[genL,and_eq_true]at h;rw[compL,HR k ins h.1,I6 ks ins h.2];rfl
end
theorem JP {P:Re->Prop} (l:List Int) {tr:MS->Re×MS} (h:∀ s,P (tr s).1) (s:MS):∀ i,∀ k∈(stK l tr s i).1,P k
 | 0,k,hk=>by simp[stK]at hk
 | i+1,k,hk=>by
   rw[stK]at hk;rcases mem_append.1 hk with hk|hk
   ·exact JP l h s i k hk
   ·rw[List.mem_singleton.1 hk];exact h _
theorem Gt (l:List Int) (tr:MS->Re×MS) (s:MS):∀ i,(stK l tr s i).1.length=i
 | 0=>rfl
 | i+1=>by rw[stK,List.length_append,Gt l tr s i];rfl
theorem Fn {P:Re->Prop} (l:List Int) {tr:MS->Re×MS} (h:∀ s,P (tr s).1) (s:MS):(∀ k∈(kidsF l tr s).1,P k)/\(kidsF l tr s).1.length<=3/\2<=(kidsF l tr s).1.length:=by
 unfold kidsF;split
 ·exact⟨JP l h s 3,by rw[Gt];omega,by rw[Gt];omega⟩
 ·exact⟨JP l h s 2,by rw[Gt];omega,by rw[Gt];omega⟩
theorem Gg (cap:Bool) (l:List Int) (s:MS):genG cap (setM l s).1=true:=by
 simp[setM,genG,genL]
theorem Kd (l:List Int) (s:MS):nullG (setM l s).1=false:=by
 unfold setM;simp only;rw[nullG];simp
structure Uses (uses:Int):Prop where
 u1:¬ 0<andI uses 1
 u2:¬ 0<andI uses 2
 u4:¬ 0<andI uses 4
 u8:¬ 0<andI uses 8
 u32:andI uses 32=0
theorem Q2:Uses 80:=⟨by decide,by decide,by decide,by decide,by decide⟩
theorem Q4:Uses 16:=⟨by decide,by decide,by decide,by decide,by decide⟩
theorem KG {uses:Int} (hu:Uses uses) (l:List Int):∀ d s,genG (decide (0<andI uses 64)) (treeF l uses d s).1=true
 | 0,s=>by
   rw[treeF];unfold leafF;split
   ·simp[genG,genL]
   ·exact Gg _ l _
 | d+1,s=>by
   have ih:=KG hu l d;have hk:=fun s=>Fn (P:=fun k=>genG (decide (0<andI uses 64)) k=true) l ih s;rw[treeF];generalize nx l 20 ⟨s.at_,s.left-1,s.caps⟩=Y;obtain⟨k,s1⟩:=Y;unfold treeStep;simp only;split
   ·unfold leafF;split
    ·simp[genG,genL]
    ·exact Gg _ l _
   split
   ·have:=(HS (decide (0<andI uses 64)) _).2 (hk s1).1;simp[genG,this]
   split
   ·have:=(HS (decide (0<andI uses 64)) _).2 (hk s1).1;simp[genG,this]
   split
   ·unfold repF;simp only[if_neg hu.u8,hu.u32,true_and];have hm:=Bo l (n:=2) (by omega) (nx l 12 s1).2;generalize nx l 2 (nx l 12 s1).2=m at *;have hm2:m.1=0∨m.1=1:=by omega
    by_cases hn:nullG (treeF l uses d m.2).1=true
    ·rw[if_pos hn];simp only[genG,genL,Gg,nullHd,Kd];simp[hm2]
    ·rw[if_neg hn];simp only[genG,genL,ih,nullHd,hn];simp[hm2]
   split
   ·rename_i hc;have hcap:∀(q:Int) (s:MS),genG (decide (0<andI uses 64)) (.mk 5 [] [(treeF l uses d s).1] 0 0 0 q false)=true:=fun q s=>by
     have:=ih s;simp only[hc.2,decide_true]at this |-;simp[genG,genL,this]
    exact hcap _ _
   split
   ·simp[genG,genL]
   split
   ·rename_i hc;exact absurd hc.2 hu.u4
   split
   ·rename_i hc;exact absurd hc.2 hu.u8
   split
   ·rename_i hc;exact absurd hc.2.1 hu.u1
   split
   ·rename_i hc;exact absurd hc.2.1 hu.u2
   ·exact Gg _ l _
def mL1:Nat->Nat
 | 0=>1
 | d+1=>3*mL1 d+4
theorem QA:∀ d,1<=mL1 d
 | 0=>le_refl _
 | d+1=>by rw[mL1];omega
theorem Gd (l:List Int) (s:MS):lenG (setM l s).1=1:=by simp[setM,lenG]
theorem Mn {M:Nat}:∀ l:List Re,(∀ k∈l,lenG k<=M)->lenL l<=l.length*M
 | [],_=>by simp[lenL]
 | k::ks,h=>by
   have h1:=h k (by simp);have h2:=Mn ks (fun q hq=>h q (by simp[hq]));rw[lenL,List.length_cons,add_mul];omega
theorem KF {uses:Int} (hu:Uses uses) (l:List Int):∀ d s,lenG (treeF l uses d s).1<=mL1 d
 | 0,s=>by
   rw[treeF];unfold leafF;split
   ·simp[lenG,lenL]
   ·rw[Gd];exact le_refl _
 | d+1,s=>by
   have ih:=KF hu l d;have hk:=fun s=>Fn (P:=fun k=>lenG k<=mL1 d) l ih s;have hp:=QA d;have kl:∀ s,lenL (kidsF l (treeF l uses d) s).1<=3*mL1 d:=fun s=>le_trans (Mn _ (hk s).1) (Nat.mul_le_mul_right _ (hk s).2.1);rw[treeF];generalize nx l 20 ⟨s.at_,s.left-1,s.caps⟩=Y;obtain⟨k,s1⟩:=Y;have kl1:=kl s1;have hk1:=(hk s1).2;unfold treeStep;simp only;rw[show mL1 (d+1)=3*mL1 d+4 from rfl];split
   ·unfold leafF;split
    ·simp[lenG,lenL]
    ·rw[Gd];omega
   split
   ·simp[lenG];omega
   split
   ·simp[lenG];omega
   split
   ·unfold repF;simp only[if_neg hu.u8,hu.u32,true_and];have h12:=Bo l (n:=12) (by omega) s1;generalize (nx l 12 s1)=q at *;have hkid:∀ s,lenG (if nullG (treeF l uses d s).1=true then setM l (treeF l uses d s).2 else treeF l uses d s).1<=mL1 d:=fun s=>by
     split
     ·rw[Gd];omega
     ·exact ih s
    have h1:=hkid (nx l 2 q.2).2;generalize (if nullG (treeF l uses d (nx l 2 q.2).2).1=true then setM l (treeF l uses d (nx l 2 q.2).2).2 else treeF l uses d (nx l 2 q.2).2).1=kid at *;obtain⟨q1,q2⟩:=q;simp only at h12 |-;have:q1=0∨q1=1∨q1=2∨q1=3∨q1=4∨q1=5∨q1=6∨q1=7∨q1=8∨q1=9∨q1=10∨q1=11:=by omega
    rcases this with rfl|rfl|rfl|rfl|rfl|rfl|rfl|rfl|rfl|rfl|rfl|rfl<;>simp[lenG,lenL]<;>omega
   split
   ·unfold capF;have hcap:∀(q:Int) (s:MS),lenG (.mk 5 [] [(treeF l uses d s).1] 0 0 0 q false)<=3*mL1 d+4:=fun q s=>by
     have:=ih s;simp[lenG,lenL];omega
    exact hcap _ _
   split
   ·simp[lenG]
   split
   ·rename_i hc;exact absurd hc.2 hu.u4
   split
   ·rename_i hc;exact absurd hc.2 hu.u8
   split
   ·rename_i hc;exact absurd hc.2.1 hu.u1
   split
   ·rename_i hc;exact absurd hc.2.1 hu.u2
   ·rw[Gd];omega
theorem N9 {l:List (Int×Int)}{runes:Bool} (h:spansG l (topI runes)=true):refSpans l=0/\lastOk l (if runes then 1114111 else 255)=true:=by
 simp only[spansG,and_eq_true,decide_eq_true_eq,Bool.not_eq_true']at h;have ht:=JO runes;have hg:∀ k,k<l.length->badS l (topI runes) k=false:=fun k hk=>by
  have:=List.any_eq_false.1 h.2 k (mem_range.2 hk)
  simpa using this
 refine⟨?_,?_⟩
 ·rw[Ef,if_neg (by omega)];intro k hk;have hb:=hg k hk;obtain⟨p,hp⟩:∃ p,l[k]?=some p:=⟨_,List.getElem?_eq_getElem hk⟩;simp only[badS,hp,Bool.or_eq_false_iff,decide_eq_false_iff_not]at hb;simp only[badAt,hp];have hd:decide (0<=p.1/\p.1<=p.2/\p.2<=1114111)=true:=by rw[decide_eq_true_eq];omega
  rw[hd];cases k with
  | zero=>rfl
  | succ k=>
    obtain⟨q,hq⟩:∃ q,l[k]?=some q:=⟨_,List.getElem?_eq_getElem (by omega)⟩;have:=hb.2;simp only[hq,decide_eq_false_iff_not]at this |-;have hd2:decide (p.1-q.2<2)=false:=by rw[decide_eq_false_iff_not];omega
    rw[hd2];rfl
 ·unfold lastOk;split
  ·rename_i p hp;have hk:=(List.getElem?_eq_some_iff.1 hp).1;have hb:=hg _ hk;simp only[badS,hp,Bool.or_eq_false_iff,decide_eq_false_iff_not]at hb;have:=hb.1.2;rw[decide_eq_true_eq];unfold topI at this;omega
  ·rfl
def OkL (N:Nat) (caps:Int) (runes:Bool) (l:List Ins):Prop:=∀ i∈l,okIns N caps runes i=true
theorem OkL.app {N:Nat}{caps:Int}{runes:Bool}{a b:List Ins} (ha:OkL N caps runes a) (hb:OkL N caps runes b):OkL N caps runes (a++b):=fun i hi=>by
 rcases mem_append.1 hi with h|h
 ·exact ha i h
 ·exact hb i h
theorem OkL.cons {N:Nat}{caps:Int}{runes:Bool}{x:Ins}{b:List Ins} (ha:okIns N caps runes x=true) (hb:OkL N caps runes b):OkL N caps runes (x::b):=fun i hi=>by
 rcases mem_cons.1 hi with rfl|h
 ·exact ha
 ·exact hb i h
theorem OkL.nil {N:Nat}{caps:Int}{runes:Bool}:OkL N caps runes []:=fun i hi=>by simp at hi
theorem OkL.flat {α:Type}{N:Nat}{caps:Int}{runes:Bool}{l:List α}{g:α->List Ins} (h:∀ x∈l,OkL N caps runes (g x)):OkL N caps runes (l.flatMap g):=fun i hi=>by
 obtain⟨x,hx,hi⟩:=List.mem_flatMap.1 hi;exact h x hx i hi
theorem HC {N:Nat}{caps:Int}{runes:Bool}{md:Int}{a b:Nat} (ha:a<N) (hb:b<N):okIns N caps runes (insSplit md (a:Int) (b:Int))=true:=by
 unfold insSplit;split<;>simp[okIns,ha,hb]
theorem Me {N:Nat}{caps:Int}{runes:Bool}{a:Nat} (ha:a<N):okIns N caps runes ⟨3,(a:Int),0,0,[]⟩=true:=by simp[okIns,ha]
mutual
theorem Gj {caps:Int}{runes:Bool}{N:Nat}:∀ r:Re,GoodC caps (topI runes) r->∀ f,f+lenG r<N->OkL N caps runes (codeG r f)
 | .mk op set kids mn mx md n neg,h,f,hN=>by
   have hC:=Hn (N:=N) kids h.kids;have hA:=Ho (N:=N) kids h.kids;have hH:=Nf (N:=N) kids h.kids;obtain⟨hk,hkd,hrp,hcp,_⟩:=BG h.whole;have hform:formedG caps (topI runes) (.mk op set kids mn mx md n neg)=true:=by
    have:=h.whole;rw[wholeG,and_eq_true]at this;exact this.1
   rw[codeG];rw[lenG]at hN;rcases h.op with rfl|rfl|rfl|rfl|rfl|rfl|rfl
   ·simp;exact OkL.nil
   ·simp only[if_true];have hs:spansG set (topI runes)=true:=by
     simp only[formedG,and_eq_true]at hform
     simpa using hform.1.1.1.2
    obtain⟨s1,s2⟩:=N9 hs;refine OkL.cons ?_ OkL.nil;simp[okIns,s1,s2]
   ·simp only[show ¬(2:Int)=1 by decide,show ¬(2:Int)=11 by decide,if_false,if_true];exact hC f (by simpa using hN)
   ·simp only[show ¬(3:Int)=1 by decide,show ¬(3:Int)=11 by decide,show ¬(3:Int)=2 by decide,if_false,if_true];have h2:2<=kids.length:=by simpa [kidsG] using hkd
    exact hA f (by omega) (by simpa using hN)
   ·obtain⟨k,rfl⟩:∃ k,kids=[k]:=List.length_eq_one_iff.1 (by simpa [kidsG] using hkd);have hr:=hrp rfl;simp only[repG,and_eq_true,or_eq_true,decide_eq_true_eq,beq_iff_eq]at hr;simp only[show ¬(4:Int)=1 by decide,show ¬(4:Int)=11 by decide,show ¬(4:Int)=2 by decide,show ¬(4:Int)=3 by decide,show ¬(4:Int)=5 by decide,if_false,if_true,or_self,lenL,codeHd,Nat.add_zero]at hN |-;simp only[codeHd]at hH;generalize hL:lenG k=L at *;by_cases hm:mx = -1
    ·simp only[if_pos hm]at hN |-;rw[succ_mul]at hN;refine OkL.app (OkL.flat fun i hi=>hH _ ?_) (OkL.cons (HC (by omega) (by omega)) (OkL.app (hH _ (by rw[lenL,lenL,hL];omega)) (OkL.cons (Me (by omega)) OkL.nil)));have:=Nat.mul_le_mul_right L (show i+1<=mn.toNat by have:=mem_range.1 hi;omega);rw[succ_mul]at this;rw[lenL,lenL,hL];omega
    ·simp only[if_neg hm]at hN |-;obtain⟨e,he⟩:∃ e,mx.toNat=mn.toNat+e:=⟨mx.toNat-mn.toNat,by omega⟩;rw[he,Nat.add_sub_cancel_left,add_mul]at hN |-;refine OkL.app (OkL.flat fun i hi=>hH _ ?_) (OkL.flat fun j hj=>?_)
     ·have:=Nat.mul_le_mul_right L (show i+1<=mn.toNat by have:=mem_range.1 hi;omega);rw[succ_mul]at this;rw[lenL,lenL,hL];omega
     ·have h1:=mem_range.1 hj;have:=Nat.mul_le_mul_right L (show j+1<=e by omega);rw[succ_mul]at this;have h2:j*(L+1)=j*L+j:=by rw[Nat.mul_add,Nat.mul_one]
      exact OkL.cons (HC (by omega) (by omega)) (hH _ (by rw[lenL,lenL,hL];omega))
   ·obtain⟨k,rfl⟩:∃ k,kids=[k]:=List.length_eq_one_iff.1 (by simpa [kidsG] using hkd);simp only[show ¬(5:Int)=1 by decide,show ¬(5:Int)=11 by decide,show ¬(5:Int)=2 by decide,show ¬(5:Int)=3 by decide,if_false,if_true,or_self]at hN |-;have hc:=hcp (.inl rfl);refine OkL.cons ?_ (OkL.app (hH _ (by omega)) (OkL.cons ?_ OkL.nil))
    ·simp[okIns];omega
    ·simp[okIns];omega
   ·simp only[show ¬(11:Int)=1 by decide,if_false,if_true];have hs:0<=n/\n<=5:=by
     simp only[formedG,and_eq_true]at hform
     simpa using hform.1.2
    refine OkL.cons ?_ OkL.nil;simp[okIns,hs]
theorem Hn {caps:Int}{runes:Bool}{N:Nat}:∀ l:List Re,(∀ k∈l,GoodC caps (topI runes) k)->∀ f,f+lenL l<N->OkL N caps runes (codeCat l f)
 | [],_,_,_=>OkL.nil
 | k::ks,h,f,hN=>by
   rw[lenL]at hN;rw[codeCat];exact OkL.app (Gj k (h k (by simp)) f (by omega)) (Hn ks (fun q hq=>h q (by simp[hq])) _ (by omega))
theorem Ho {caps:Int}{runes:Bool}{N:Nat}:∀ l:List Re,(∀ k∈l,GoodC caps (topI runes) k)->∀ f,1<=l.length->f+(lenL l+2*(l.length-1))<N->OkL N caps runes (codeAlt l f)
 | [],_,_,_,_=>OkL.nil
 | k::ks,h,f,_,hN=>by
   rw[codeAlt];have hk:=fun f=>Gj (N:=N) k (h k (by simp)) f;split
   ·rename_i h0;have:ks=[]:=List.length_eq_zero_iff.1 h0;subst this;exact hk f (by simp[lenL]at hN;omega)
   ·rename_i h0;have hs:=Ho (N:=N) ks (fun q hq=>h q (by simp[hq])) (f+lenG k+2) (by omega);simp only[lenL,List.length_cons]at hN;refine OkL.cons ?_ (OkL.app (hk _ (by omega)) (OkL.cons (Me (by simp only[lenL];omega)) (hs (by omega))));have:=HC (N:=N) (caps:=caps) (runes:=runes) (md:=0) (a:=f+1) (b:=f+lenG k+2) (by omega) (by omega);exact this
theorem Nf {caps:Int}{runes:Bool}{N:Nat}:∀ l:List Re,(∀ k∈l,GoodC caps (topI runes) k)->∀ f,f+lenL l<N->OkL N caps runes (codeHd l f)
 | [],_,_,_=>OkL.nil
 | k::ks,h,f,hN=>by
   rw[lenL]at hN;rw[codeHd];exact Gj k (h k (by simp)) f (by omega)
end
abbrev prgOf (re:Re) (caps:Int) (runes:Bool):Prg:=⟨codeG re 0++[⟨0,0,0,0,[]⟩],caps,runes⟩
theorem NH {re:Re}{caps:Int}{runes:Bool} (hv:validP ⟨re,caps,runes⟩=0) (hc:codable re=true) (hl:lenG re+1<=8192):validG (prgOf re caps runes)=0/\PrgB (prgOf re caps runes):=by
 obtain⟨hsz,hdp,hc0,hc9,hwg⟩:=CR hv;simp only at hc0 hc9 hwg;have hg:GoodC caps (topI runes) re:=⟨hwg,hc⟩;have hlen:=BH caps (topI runes) re 0 hg;have hok:OkL (lenG re+1) caps runes (codeG re 0++[⟨0,0,0,0,[]⟩]):=OkL.app (Gj re hg 0 (by omega)) (OkL.cons (by simp[okIns]) OkL.nil);have hn:(codeG re 0++[(⟨0,0,0,0,[]⟩:Ins)]).length=lenG re+1:=by simp[hlen]
 have hn':(prgOf re caps runes).ins.length=lenG re+1:=hn;have hb:(prgOf re caps runes).ins.length<=1000000/\∀ i∈(prgOf re caps runes).ins,i.set.length<=1000000:=by
  refine⟨by omega,fun i hi=>?_⟩;have:=hok i hi;simp only[okIns,and_eq_true]at this;obtain⟨⟨⟨⟨h1,_⟩,_⟩,_⟩,h2⟩:=this;by_cases e:i.op=1
  ·have h3:refSpans i.set=0/\lastOk i.set (if runes=true then 1114111 else 255)=true:=by simpa [e] using h2
   have this:=h3.1;unfold refSpans at this;split at this
   ·cases this
   ·split at this
    ·cases this
    ·omega
  ·have:i.set.length=0:=by simpa [e] using h1
   omega
 refine⟨?_,hb⟩
 ·unfold validG;simp only[hn];rw[if_neg (by omega),if_neg (by omega),if_pos];rw[and_eq_true];refine⟨List.all_eq_true.2 hok,?_⟩;simp[lastGood]
mutual
def noAs:Re->Bool
 | .mk op set kids mn mx md n neg=>!decide (op=11)&&noAsL kids
def noAsL:List Re->Bool
 | []=>true
 | k::ks=>noAs k&&noAsL ks
end
theorem Fl:∀ l:List Re,noAsL l=true↔∀ k∈l,noAs k=true
 | []=>by simp[noAsL]
 | k::ks=>by simp[noAsL,Fl ks]
def No5 (l:List Ins):Prop:=∀ i∈l,i.op≠5
theorem No5.nil:No5 []:=fun i h=>by cases h
theorem No5.cons {x:Ins}{l:List Ins} (h:x.op≠5) (h2:No5 l):No5 (x::l):=fun i hi=>by
 rcases mem_cons.1 hi with rfl|hi
 ·exact h
 ·exact h2 i hi
theorem No5.app {l m:List Ins} (h:No5 l) (h2:No5 m):No5 (l++m):=fun i hi=>by
 rcases mem_append.1 hi with hi|hi
 ·exact h i hi
 ·exact h2 i hi
theorem No5.flat {l:List Nat}{f:Nat->List Ins} (h:∀ n,No5 (f n)):No5 (l.flatMap f):=fun i hi=>by
 obtain⟨n,_,h2⟩:=List.mem_flatMap.1 hi;exact h n i h2
theorem uses0:Uses 0:=⟨by decide,by decide,by decide,by decide,by decide⟩
theorem sizeL_append:∀ a b:List Re,Re.sizeL (a++b)=Re.sizeL a+Re.sizeL b
 | [],b=>by simp[Re.sizeL]
 | k::ks,b=>by simp[Re.sizeL,sizeL_append ks b];omega
end Go.Ev
