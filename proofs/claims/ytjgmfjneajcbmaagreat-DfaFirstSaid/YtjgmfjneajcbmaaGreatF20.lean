/- slices.SortFunc at sets.end (function 102) as a law of its own: its contract is the kit's. -/
import Derived.Test.YtjgmfjneajcbmaaGreatF19
import Derived.Test.YtjgmfjneajcbmaaGreatF18
import Derived.Shelf.SlSortCmp.NoneTotal
set_option linter.unusedVariables false
set_option linter.unusedSimpArgs false
open List (all_append getElem?_eq_getElem head?_drop length_append length_cons map_append map_take nil_append)
open Int (le_refl)
open Go.Proofs Go.RowKit Go.IntWalk
set_option maxHeartbeats 8000000
set_option maxRecDepth 100000
namespace Go.Ev
open Go.Proofs Go.Shelf Go.RowKit Go.Lib Go.Sort
theorem SZ:∀ args w,(callFunc 103 args).run Tryz.prog w=.ok (.enter 103 args) w:=enters_of Tryz.func103 (by kernel_rfl) rfl
theorem Sa:∀ args w,(callFunc 102 args).run Tryz.prog w=.ok (.enter 102 args) w:=enters_of Tryz.func102 (by kernel_rfl) rfl
theorem Hu {args:List AV}{H H':List MB}{r:AV} (h:sort2Ext Sml 103 srtE args H=some (r,H')):CallSound Tryz.prog 102 args H r H':=by
 refine J8 Sml M0 Sa (fun p cap fv w=>AnyF.slices_SortFunc_none Tryz.sortL p cap fv w) (fun blk off cap d w hH hblk hsz=>?_) h
 exact AnyQ.slices_SortFunc_eq Tryz.sortL 2 Tryz.isAgg135 Tryz.sizeOf135 Sml.enc (fun _=>rfl) (fun x v hv=>by simp[El.enc,enc2]at hv;rcases hv with rfl|rfl<;>rfl) cfE swoE 103 #[] blk off cap d w SZ
  (fun _ _ _ _ x y=>L8 x y _) hH hblk hsz
end Go.Ev
namespace Go.Ev
open Go.Proofs Go.RowKit
theorem ext1:ExtOk Pg pol1:=by
 intro f g hg args H r H' h;have hf:(f=45/\g=cloneExt 2 16)∨(f=50/\g=ext49)∨(f=44/\g=cloneExtO 5 56)∨(f=102/\g=sort2Ext Sml 103 srtE)∨(f=94/\g=cloneExt 2 16):=by
  by_cases e:f=45
  ·subst e;have:pol1.ext 45=some (cloneExt 2 16):=rfl;rw[this]at hg;exact .inl ⟨rfl,(Option.some.inj hg).symm⟩
  ·by_cases e2:f=50
   ·subst e2;have:pol1.ext 50=some ext49:=rfl;rw[this]at hg;exact .inr (.inl ⟨rfl,(Option.some.inj hg).symm⟩)
   ·by_cases e3:f=44
    ·subst e3;have:pol1.ext 44=some (cloneExtO 5 56):=rfl;rw[this]at hg;exact .inr (.inr (.inl ⟨rfl,(Option.some.inj hg).symm⟩))
    ·by_cases e4:f=102
     ·subst e4;have:pol1.ext 102=some (sort2Ext Sml 103 srtE):=rfl;rw[this]at hg;exact .inr (.inr (.inr (.inl ⟨rfl,(Option.some.inj hg).symm⟩)))
     ·by_cases e5:f=94
      ·subst e5;have:pol1.ext 94=some (cloneExt 2 16):=rfl;rw[this]at hg;exact .inr (.inr (.inr (.inr ⟨rfl,(Option.some.inj hg).symm⟩)))
      ·have:pol1.ext f=none:=by
        show (if f=45 then some (cloneExt 2 16) else if f=50 then some ext49 else if f=44 then some (cloneExtO 5 56) else if f=102 then some (sort2Ext Sml 103 srtE) else if f=94 then some (cloneExt 2 16) else none)=none;rw[if_neg e,if_neg e2,if_neg e3,if_neg e4,if_neg e5]
       rw[this]at hg;cases hg
 rcases hf with ⟨rfl,rfl⟩|⟨rfl,rfl⟩|⟨rfl,rfl⟩|⟨rfl,rfl⟩|⟨rfl,rfl⟩
 ·exact GC (T:=23) (B:=4) (e:=40) (k:=2) (by_:=16) (ze:=.agg [.int .i64 0,.int .i64 0])
   Tryz.func45 rfl rfl rfl rfl (by kernel_rfl) (by kernel_rfl) (by omega) (by kernel_rfl) (by kernel_rfl) rfl rfl h
 ·exact Kp h
 ·exact Jk (T:=46) (B:=4) (e:=91) (k:=5) (by_:=56) (ze:=.agg [.int .i64 0,.int .i64 0,.int .i64 0,.int .i64 0,.sl true []])
   Tryz.func44 rfl rfl rfl rfl (by kernel_rfl) (by kernel_rfl) (by omega) (by kernel_rfl) (by kernel_rfl) rfl rfl h
 ·exact Hu h
 ·exact GC (T:=77) (B:=4) (e:=166) (k:=2) (by_:=16) (ze:=.agg [.int .i64 0,.int .i64 0])
   Tryz.func94 rfl rfl rfl rfl (by kernel_rfl) (by kernel_rfl) (by omega) (by kernel_rfl) (by kernel_rfl) rfl rfl h
theorem BQ:Pg.follows .mixedOrders=true:=by kernel_rfl
theorem ok1:CfOk Pg (call Pg pol1):=QI ext1 BQ
end Go.Ev
namespace Go.Ev
attribute [local go_sem] evBin AV.cells AV.ok frzB Av BG bndO bnd evEq eqCells not_false_eq_true not_true_eq_false Af Array.size_empty length_append map_append
section
attribute [local go_sem] evAppend tySzE head?_drop Nat.mul_one AR AY AP AS AT Ad
theorem en49 (vs:Array Value) (w:World):(callFunc 50 vs).run Pg w=.ok (.enter 50 vs) w:=Hh Tryz.func50 rfl rfl vs w
abbrev Law49 (ins:List Int) (s:Value) (re:Re):Prop:=
 ∀ I w vs,Val I w->SliceOk I w s ins->RepL I [] [.pt (reC re),pinOf s] vs->Calls Pg 50 vs w (fun e w'=>e=.returned (.bool (compG ins re))/\Fr (spOf s) w w')
theorem f49a (caps top:Int):∀(N:Nat) (re:Re) (ins:List Int),re.wt<=N->re.wt<=1000000->ins.length+re.wt<=2000000->wholeG caps top re=true->∀ s,Law49 ins s re
 | 0,r,_,h,_,_,_,_=>by have:=r.wt_pos;omega
 | N+1,.mk op set kids mn mx md n neg,ins,h,hN,hI,hw,s=>by
   intro I w vs hv hs hr;have hkl:=Re.wtL_len kids;have hwt:1+set.length+Re.wtL kids=(Re.mk op set kids mn mx md n neg).wt:=by simp[Re.wt]
   obtain⟨hwk,hkd,hrp,_,ho1,ho2⟩:=BC hw;have ih:=fun k (hk:k∈kids) (ins':List Int) (hi:ins'.length<=ins.length+1)=>f49a caps top N k ins' (by have:=Re.wtL_mem hk;omega) (by have:=Re.wtL_mem hk;omega) (by have:=Re.wtL_mem hk;omega) (hwk k hk);have h105:=fun k (hk:k∈kids)=>f105 k (by have:=Re.wtL_mem hk;omega) caps top (hwk k hk);have h106:=f106 ins n (by omega);refine calls_of_wp Tryz.func50 rfl ?_;rw[show reC (.mk op set kids mn mx md n neg)=nodeL op set kids mn mx md n neg from Bh]at hr;have h0:HSt I w (spOf s) 65 [(1,pinOf s),(0,.pt (nodeL op set kids mn mx md n neg))] _ w:=HSt.init (m:=65) hv hs.has hr;have hsp:∀ k o,spOf s=some (k,o)->k<w.heap.size:=fun k o e=>by
    obtain⟨cs,T,e⟩:=hs.has k o e;exact(Array.getElem?_eq_some_iff.1 e).1
   have hpin:=(hs.pin (J:=I) (L:=[])).2.1;have hret:∀ a' w',Fr (spOf s) w w'->a'.defers=[]->a'.tmps.getD 4 undef=.bool (compG ins (.mk op set kids mn mx md n neg))->bodyPost Pg Tryz.f50 (fun e w'=>e=.returned (.bool (compG ins (.mk op set kids mn mx md n neg)))/\Fr (spOf s) w w') .ret a' w':=by
    intro a' w' g1 g2 g3;exact⟨g2,_,by rw[KF (d:=4) rfl,g3],rfl,g1⟩
   generalize bodyPost Pg Tryz.f50 (fun e w'=>e=.returned (.bool (compG ins (.mk op set kids mn mx md n neg)))/\Fr (spOf s) w w')=Q at hret |-;have hu1:AV.underL 0 (set.map spanAV)=true:=AE 0 _ (AF set);have hu2:AV.underL 0 (kids.map reAV)=true:=AE 0 _ (AN kids);refine wp_seq_k fun K hK=>?_;refine h0.W ok1 Bw BQ hsp (mu:=pol1.muts 50) (m:=cfgOf pol1 50 0) ?_;simp +contextual (disch:=omega) only[Tryz.f50,dd50,go_sem,simprocAttr,mu50,↓AD,↓AC,↓AB,↓AA,AV.underL,AV.under,hpin,hu1,hu2,exOf];refine fun a1 w1 h1=>hK _ _ ?_;clear hK K;refine wp_seq_k fun K hK=>?_
   have hrest:∀ I1 w1 s1 ins1 a2 w2 t,SliceOk I1 w1 s1 ins1->Fr (spOf s) w w1->SpLe w.heap.size (spOf s) (spOf s1)->HSt I1 w1 (spOf s1) 65 t a2 w2->List.Sublist [(1,pinOf s1),(0,.pt (nodeL op set kids mn mx md n neg))] t ->
     ins1.length<=ins.length+1->compG ins (.mk op set kids mn mx md n neg)=compL ins1 kids->K a2 w2:=by
    intro I1 w1 s1 ins1 a2 w2 t hs1 hfr hle h2 hsub hlen hcomp;refine hK a2 w2 ?_
    replace h2:=h2.sub hsub
    clear hK hsub;have hsp1:∀ k o,spOf s1=some (k,o)->k<w1.heap.size:=fun k o e=>by
     obtain⟨cs,T,e⟩:=hs1.has k o e;exact(Array.getElem?_eq_some_iff.1 e).1
    have hpin1:=(hs1.pin (J:=I) (L:=[])).2.1;refine wp_seq_k fun K hK=>?_;refine wp_seq_k fun K2 hK2=>?_;refine h2.W ok1 Bw BQ hsp1 (mu:=pol1.muts 50) (m:=cfgOf pol1 50 0) ?_;simp +contextual (disch:=omega) only[Tryz.f50,dd50,go_sem,simprocAttr,mu50,↓AD,↓AC,↓AB,↓AA,AV.underL,AV.under,hpin1,hu1,hu2,exOf];refine fun a3 w3 h3=>hK2 _ _ ?_;clear hK2 K2;refine wp_block ?_;refine Hr (fun i a w=>(∀ j k,j<i->kids[j]?=some k->compG ins1 k=true)/\HSt I1 w1 (spOf s1) 65 [(52,Go.Ev.I i),(51,Go.Ev.I kids.length),(1,pinOf s1),(0,.pt (nodeL op set kids mn mx md n neg))] a w) kids.length ?_ ?_ ⟨fun j k h=>by omega,h3⟩
    ·rintro i a4 w4 hi ⟨hall,h4⟩;obtain⟨k,hk⟩:∃ k,kids[i]?=some k:=⟨_,getElem?_eq_getElem hi⟩;have hkm:=List.mem_of_getElem? hk;refine wp_seq_k fun K3 hK3=>?_;refine h4.W ok1 Bw BQ hsp1 (mu:=pol1.muts 50) (m:=cfgOf pol1 50 0) ?_;simp +contextual (disch:=omega) only[Tryz.f50,dd50,go_sem,simprocAttr,mu50,↓AD,↓AC,↓AB,↓AA,AV.underL,AV.under,hpin1,hu1,hu2,exOf];refine fun a5 w5 h5=>hK3 _ _ ?_;clear hK3 K3;refine wp_seq_k fun K3 hK3=>?_;refine h5.W ok1 Bw BQ hsp1 (mu:=pol1.muts 50) (m:=cfgOf pol1 50 0) ?_;simp +contextual (disch:=omega) only[Tryz.f50,dd50,go_sem,simprocAttr,mu50,↓AD,↓AC,↓AB,↓AA,AV.underL,AV.under,hpin1,hu1,hu2,exOf];refine fun a6 w6 h6=>hK3 _ _ ?_;clear hK3 K3;refine wp_seq_k fun K3 hK3=>?_;refine wp_block ?_;refine wp_seq_k fun K4 hK4=>?_;refine h6.W ok1 Bw BQ hsp1 (mu:=pol1.muts 50) (m:=cfgOf pol1 50 0) ?_;simp +contextual (disch:=omega) only[Tryz.f50,dd50,go_sem,simprocAttr,mu50,↓AD,↓AC,↓AB,↓AA,AV.underL,AV.under,hpin1,hu1,hu2,exOf];refine fun a7 w7 h7=>hK4 _ _ ?_;clear hK4 K4;refine wp_seq_k fun K4 hK4=>?_;refine B8 ?_;refine h7.ops ok1 hsp1 (mu:=pol1.muts 50) 7 ?_;have hl8:=AM k;simp +contextual (disch:=omega) only[Tryz.f50,dd50,go_sem,simprocAttr,mu50,↓AD,↓AC,↓AB,↓AA,AV.underL,AV.under,hpin1,hu1,hu2,exOf,hk,hl8];have huk:AV.underL 0 (reC k)=true:=AE 0 _ (AZ k);refine⟨huk,fun a8 w8 h8=>?_⟩;refine h8.callB hs1 en49 (l:=[.pt (reC k),pinOf s1]) rfl (ih k hkm ins1 hlen s1) (fun a9 w9 h9=>?_);cases hck:compG ins1 k with
     | true=>
       rw[hck]at h9;refine h9.ops ok1 hsp1 (mu:=pol1.muts 50) 1 ?_;simp +contextual (disch:=omega) only[Tryz.f50,dd50,go_sem,simprocAttr,mu50,↓AD,↓AC,↓AB,↓AA,AV.underL,AV.under,hpin1,hu1,hu2,huk,exOf,hk,hl8];refine fun a10 w10 h10=>hK4 _ _ ?_;clear hK4 K4;refine h10.W ok1 Bw BQ hsp1 (mu:=pol1.muts 50) (m:=cfgOf pol1 50 0) ?_;simp +contextual (disch:=omega) only[Tryz.f50,dd50,go_sem,simprocAttr,mu50,↓AD,↓AC,↓AB,↓AA,AV.underL,AV.under,hpin1,hu1,hu2,huk,exOf];refine fun a11 w11 h11=>hK3 _ _ ?_;clear hK3 K3;refine h11.W ok1 Bw BQ hsp1 (mu:=pol1.muts 50) (m:=cfgOf pol1 50 0) ?_;have hJ:∀(j:Nat) (k:Re),j<i+1->kids[j]?=some k->compG ins1 k=true:=fun j k2 h1 h2=>by
        rcases Nat.lt_or_ge j i with h|h
        ·exact hall j k2 h h2
        ·obtain rfl:j=i:=by omega
         rw[hk]at h2;obtain rfl:=Option.some.inj h2;exact hck
       generalize hJd:(∀(j:Nat) (k:Re),j<i+1->kids[j]?=some k->compG ins1 k=true)=J at hJ |-;simp +contextual (disch:=omega) only[Tryz.f50,dd50,go_sem,simprocAttr,mu50,↓AD,↓AC,↓AB,↓AA,AV.underL,AV.under,hpin1,hu1,hu2,huk,exOf]
       exact fun a12 w12 h12=>⟨hJ,h12.sub (by iterate 9 refine .cons _ ?_
                                              exact .cons_cons _ (.cons_cons _ (.cons _ (.refl _))))⟩
     | false=>
       rw[hck]at h9;refine h9.ops ok1 hsp1 (mu:=pol1.muts 50) 1 ?_;simp +contextual (disch:=omega) only[Tryz.f50,dd50,go_sem,simprocAttr,mu50,↓AD,↓AC,↓AB,↓AA,AV.underL,AV.under,hpin1,hu1,hu2,huk,exOf,hk,hl8];refine fun a10 w10 h10=>hK4 _ _ ?_;clear hK4 K4;refine h10.W ok1 Bw BQ hsp1 (mu:=pol1.muts 50) (m:=cfgOf pol1 50 0) ?_;simp +contextual (disch:=omega) only[Tryz.f50,dd50,go_sem,simprocAttr,mu50,↓AD,↓AC,↓AB,↓AA,AV.underL,AV.under,hpin1,hu1,hu2,huk,exOf];refine fun a11 w11 h11=>?_;obtain⟨g1,g2,g3⟩:=h11.done (d:=4) rfl;exact hret a11 w11 (hfr.thenS g1 hle) g2 (by rw[g3,hcomp,Cf hkm hck])
    ·rintro a4 w4 ⟨hall,h4⟩;refine wp_seq_k fun K3 hK3=>?_;refine h4.W ok1 Bw BQ hsp1 (mu:=pol1.muts 50) (m:=cfgOf pol1 50 0) ?_;simp +contextual (disch:=omega) only[Tryz.f50,dd50,go_sem,simprocAttr,mu50,↓AD,↓AC,↓AB,↓AA,AV.underL,AV.under,hpin1,hu1,hu2,exOf];refine fun a5 w5 h5=>hK3 _ _ ?_;clear hK3 K3;refine wp_seq_k fun K3 hK3=>?_;refine h5.W ok1 Bw BQ hsp1 (mu:=pol1.muts 50) (m:=cfgOf pol1 50 0) ?_;simp +contextual (disch:=omega) only[Tryz.f50,dd50,go_sem,simprocAttr,mu50,↓AD,↓AC,↓AB,↓AA,AV.underL,AV.under,hpin1,hu1,hu2,exOf];refine fun a6 w6 h6=>hK _ _ ?_;clear hK3 K3 hK;refine h6.W ok1 Bw BQ hsp1 (mu:=pol1.muts 50) (m:=cfgOf pol1 50 0) ?_;simp +contextual (disch:=omega) only[Tryz.f50,dd50,go_sem,simprocAttr,mu50,↓AD,↓AC,↓AB,↓AA,AV.underL,AV.under,hpin1,hu1,hu2,exOf];refine fun a7 w7 h7=>?_;obtain⟨g1,g2,g3⟩:=h7.done (d:=4) rfl;exact hret a7 w7 (hfr.thenS g1 hle) g2 (by rw[g3,hcomp,C7 (fun i k h1 h2=>hall i k h1 h2)])
   clear hK;refine wp_seq_k fun K2 hK2=>?_;refine h1.W ok1 Bw BQ hsp (mu:=pol1.muts 50) (m:=cfgOf pol1 50 0) ?_;simp +contextual (disch:=omega) only[Tryz.f50,dd50,go_sem,simprocAttr,mu50,↓AD,↓AC,↓AB,↓AA,AV.underL,AV.under,hpin,hu1,hu2,exOf];refine fun a2 w2 h2=>hK2 _ _ ?_;clear hK2 K2;refine wp_block ?_;by_cases h5:op=5
   ·subst h5;refine wp_seq_k fun K2 hK2=>?_;refine h2.W ok1 Bw BQ hsp (mu:=pol1.muts 50) (m:=cfgOf pol1 50 0) ?_;simp +contextual (disch:=omega) only[Tryz.f50,dd50,go_sem,simprocAttr,mu50,↓AD,↓AC,↓AB,↓AA,AV.underL,AV.under,hpin,hu1,hu2,exOf];refine fun a3 w3 h3=>hK2 _ _ ?_;clear hK2 K2;refine h3.cond (b:=false) rfl ?_;rw[if_neg Bool.false_ne_true];refine wp_seq_k fun K2 hK2=>?_;refine h3.W ok1 Bw BQ hsp (mu:=pol1.muts 50) (m:=cfgOf pol1 50 0) ?_;simp +contextual (disch:=omega) only[Tryz.f50,dd50,go_sem,simprocAttr,mu50,↓AD,↓AC,↓AB,↓AA,AV.underL,AV.under,hpin,hu1,hu2,exOf];refine fun a4 w4 h4=>hK2 _ _ ?_;clear hK2 K2;refine h4.cond (b:=false) rfl ?_;rw[if_neg Bool.false_ne_true];refine wp_seq_k fun K2 hK2=>?_;refine h4.W ok1 Bw BQ hsp (mu:=pol1.muts 50) (m:=cfgOf pol1 50 0) ?_;simp +contextual (disch:=omega) only[Tryz.f50,dd50,go_sem,simprocAttr,mu50,↓AD,↓AC,↓AB,↓AA,AV.underL,AV.under,hpin,hu1,hu2,exOf];refine fun a5 w5 h5=>hK2 _ _ ?_;clear hK2 K2;refine h5.cond (b:=true) rfl ?_;rw[if_pos rfl];refine wp_seq_k fun K2 hK2=>?_;refine wp_seq_k fun K3 hK3=>?_;refine B8 ?_;refine h5.ops ok1 hsp (mu:=pol1.muts 50) 1 ?_;simp +contextual (disch:=omega) only[Tryz.f50,dd50,go_sem,simprocAttr,mu50,↓AD,↓AC,↓AB,↓AA,AV.underL,AV.under,hpin,hu1,hu2,exOf];refine fun a6 w6 h6=>?_;have h6':HSt I w (spOf s) 65 [(34,.sl false (ins.map Go.Ev.I)),(32,.bool true),(1,pinOf s),(0,.pt (nodeL 5 set kids mn mx md n neg))] a6 w6:=h6.seen hs (d:=34) rfl;clear h6;have hu3:AV.underL 0 (ins.map Go.Ev.I)=true:=AE 0 _ (AG ins);refine h6'.ops ok1 hsp (mu:=pol1.muts 50) 5 ?_;by_cases hm:n∈ins
    ·rw[decide_eq_true hm]at h106;simp +contextual (disch:=omega) only[Tryz.f50,dd50,go_sem,simprocAttr,mu50,↓AD,↓AC,↓AB,↓AA,AV.underL,AV.under,hpin,hu1,hu2,hu3,h106,exOf];refine fun a7 w7 h7=>hK3 _ _ ?_;clear hK3 K3;refine h7.W ok1 Bw BQ hsp (mu:=pol1.muts 50) (m:=cfgOf pol1 50 0) ?_;simp +contextual (disch:=omega) only[Tryz.f50,dd50,go_sem,simprocAttr,mu50,↓AD,↓AC,↓AB,↓AA,AV.underL,AV.under,hpin,hu1,hu2,hu3,exOf];refine fun a8 w8 h8=>?_;obtain⟨g1,g2,g3⟩:=h8.done (d:=4) rfl;exact hret a8 w8 g1 g2 (by rw[g3,compG,if_neg (by omega),if_pos rfl,if_pos hm])
    ·rw[decide_eq_false hm]at h106;simp +contextual (disch:=omega) only[Tryz.f50,dd50,go_sem,simprocAttr,mu50,↓AD,↓AC,↓AB,↓AA,AV.underL,AV.under,hpin,hu1,hu2,hu3,h106,exOf];refine fun a7 w7 h7=>hK3 _ _ ?_;clear hK3 K3;refine h7.W ok1 Bw BQ hsp (mu:=pol1.muts 50) (m:=cfgOf pol1 50 0) ?_;simp +contextual (disch:=omega) only[Tryz.f50,dd50,go_sem,simprocAttr,mu50,↓AD,↓AC,↓AB,↓AA,AV.underL,AV.under,hpin,hu1,hu2,hu3,exOf];refine fun a8 w8 h8=>hK2 _ _ ?_;clear hK2 K2;refine B8 ?_;refine h8.ops ok1 hsp (mu:=pol1.muts 50) 6 ?_;simp +contextual (disch:=omega) only[Tryz.f50,dd50,go_sem,simprocAttr,mu50,↓AD,↓AC,↓AB,↓AA,AV.underL,AV.under,hpin,hu1,hu2,hu3,exOf];refine fun a9 w9 h9=>?_;refine h9.append1 (e:=3) (by_:=8) (ze:=.int .i64 0) (tt:=true) (m:=n) (by kernel_rfl) (by kernel_rfl) (by kernel_rfl) (by kernel_rfl) (by kernel_rfl) rfl hs rfl rfl (Ad (by omega) (by omega)) ?_;intro I1 w1 u a10 hs1 hfr hle hgr h10;have hpin1:=(hs1.pin (J:=I) (L:=[])).2.1;have hsp1:∀ k o,spOf u=some (k,o)->k<w1.heap.size:=fun k o e=>by
      obtain⟨cs,T,e⟩:=hs1.has k o e;exact(Array.getElem?_eq_some_iff.1 e).1
     refine h10.ops ok1 hsp1 (mu:=pol1.muts 50) 1 ?_;simp +contextual (disch:=omega) only[Tryz.f50,dd50,go_sem,simprocAttr,mu50,↓AD,↓AC,↓AB,↓AA,AV.underL,AV.under,hpin,hpin1,hu1,hu2,hu3,exOf];refine fun a11 w11 h11=>hrest I1 w1 u (ins++[n]) a11 w11 _ hs1 hfr hle h11 ?_ (by simp) (by rw[compG,if_neg (by omega),if_pos rfl,if_neg hm])
     iterate 14 refine .cons _ ?_
     exact .refl _
   ·have hgo:¬(op=4/\(md=2∨nullHd kids=true))->¬(5<op/\op≠11)->∀ t,List.Sublist [(1,pinOf s),(0,AV.pt (nodeL op set kids mn mx md n neg))] t->∀ a' w',HSt I w (spOf s) 65 t a' w'->K a' w':=fun e1 e2 t ht a' w' h=>
     hrest I w s ins a' w' t hs (.refl hs.has) (SpLe.self _ _) h ht (by omega) (by rw[compG,if_neg e1,if_neg h5,if_neg e2])
    have hno:(op=4/\(md=2∨nullHd kids=true))∨(5<op/\op≠11)->∀ t,look t 4=some (.bool false)->∀ a' w',HSt I w (spOf s) 65 t a' w'->Q .ret a' w':=fun e t ht a' w' h=>by
     obtain⟨g1,g2,g3⟩:=h.done ht;refine hret a' w' g1 g2 ?_;rw[g3,compG];rcases e with e|e
     ·rw[if_pos e]
     ·rw[if_neg (by omega),if_neg h5,if_pos e]
    have sub1:∀ x y:Nat×AV,List.Sublist [(1,pinOf s),(0,AV.pt (nodeL op set kids mn mx md n neg))] [x,y,(1,pinOf s),(0,.pt (nodeL op set kids mn mx md n neg))]:=fun x y=>.cons _ (.cons _ (.refl _));by_cases h4:op=4
    ·subst h4;have hk1:kids.length=1:=by simpa [kidsG] using hkd
     match kids,hk1 with
     | [k],_=>
       have h105k:=h105 k (List.mem_singleton.2 rfl);have hl8:=AM k;have ht8:=AU k;cases hn:nullG k with
       | true=>
         rw[hn]at h105k;have hnn:nullHd [k]=true:=hn;refine h2.W ok1 Bw BQ hsp (mu:=pol1.muts 50) (m:=cfgOf pol1 50 0) ?_;simp +contextual (disch:=omega) only[Tryz.f50,dd50,go_sem,simprocAttr,mu50,↓AD,↓AC,↓AB,↓AA,AV.underL,AV.under,hpin,hu1,hu2,exOf,h105k,hl8,ht8];exact⟨fun _=>hno (.inl ⟨rfl,.inr hnn⟩) _ rfl,fun _=>hno (.inl ⟨rfl,.inr hnn⟩) _ rfl⟩
       | false=>
         rw[hn]at h105k;have hnn:¬ nullHd [k]=true:=by rw[show nullHd [k]=false from hn];exact Bool.false_ne_true
         refine h2.W ok1 Bw BQ hsp (mu:=pol1.muts 50) (m:=cfgOf pol1 50 0) ?_;simp +contextual (disch:=omega) only[Tryz.f50,dd50,go_sem,simprocAttr,mu50,↓AD,↓AC,↓AB,↓AA,AV.underL,AV.under,hpin,hu1,hu2,exOf,h105k,hl8,ht8];refine⟨fun e=>hno (.inl ⟨rfl,.inl e⟩) _ rfl,fun e=>⟨AE 0 _ (AZ k),hgo (fun h=>h.2.elim e hnn) (by omega) _ (.cons _ (.refl _))⟩⟩
    ·refine h2.W ok1 Bw BQ hsp (mu:=pol1.muts 50) (m:=cfgOf pol1 50 0) ?_;simp +contextual (disch:=omega) only[Tryz.f50,dd50,go_sem,simprocAttr,mu50,↓AD,↓AC,↓AB,↓AA,AV.underL,AV.under,hpin,hu1,hu2,exOf,h4,h5];have sub1:∀ x y:Nat×AV,List.Sublist [(1,pinOf s),(0,AV.pt (nodeL op set kids mn mx md n neg))] [x,y,(1,pinOf s),(0,.pt (nodeL op set kids mn mx md n neg))]:=fun x y=>.cons _ (.cons _ (.refl _));refine⟨fun e=>?_,fun e0=>⟨fun e=>?_,fun e1=>⟨fun e=>?_,fun e11=>⟨fun e=>?_,fun e2=>⟨fun e=>?_,fun e3=>hno (.inr ⟨by omega,e11⟩) _ rfl⟩⟩⟩⟩⟩
     all_goals subst e;exact hgo (by omega) (by omega) _ (.cons _ (.cons _ (.refl _)))
theorem PY (caps top:Int) (re:Re) (hN:re.wt<=1000000) (hw:wholeG caps top re=true):CallSound Pg 50 [.pt (reC re),.sl true []] [] (.bool (compG [] re)) []:=by
 refine⟨en49,fun B0 w0 w I L vs hi hus=>?_⟩;have hL:L=[]:=List.length_eq_zero_iff.1 hi.len;subst hL;have h0:=hus.2 0 _ rfl;have h1:=hus.2 1 _ rfl;generalize hs:vs.getD 1 undef=s at h1;have hsl:SliceOk I w s []/\spOf s=none:=by
  cases h1 with
  | nilsl t=>exact⟨.inl ⟨rfl,rfl⟩,rfl⟩
  | sl t xs b o c k f hc ht hk hI hR=>
    have:c=0:=ht rfl;subst this;exact⟨.inr ⟨b,o,0,rfl,Nat.le_refl _,fun h=>absurd h (by simp),fun i x h=>by simp at h,fun h=>absurd h (by simp)⟩,rfl⟩
 obtain⟨hs1,hs2⟩:=hsl;have hr:RepL I [] [.pt (reC re),pinOf s] vs:=by
  refine⟨hus.1,fun i y hy=>?_⟩
  match i,hy with
  | 0,hy=>simp at hy;subst hy;exact h0
  | 1,hy=>simp at hy;subst hy;rw[hs];exact(hs1.pin (J:=I) (L:=[])).1
 refine(f49a caps top re.wt re [] (Nat.le_refl _) hN (by simp;omega) hw s I w vs hi.imm hs1 hr).mono ?_;rintro e w' ⟨rfl,hf⟩;have hv:=hf.val hs1.free hi.imm;rw[hs2]at hf;refine⟨.bool _,I,[],rfl,⟨hi.below.trans ⟨⟨hf.os,hf.tape,hf.output,hf.size,fun k hk=>hf.same k (Nat.lt_of_lt_of_le hk hi.base) (fun o h=>by cases h)⟩,hf.drawn⟩,Nat.le_trans hi.base hf.size,rfl,fun _ _ _ h=>by simp at h,fun _ _ _ _ h=>by simp at h,hv,hi.old⟩,.refl _ _,.bool _⟩
theorem f49 (caps top:Int) (re:Re) (hN:re.wt<=1000000) (hw:wholeG caps top re=true) (H:List MB):call Pg pol1 50 [.pt (reC re),.sl true []] H=some (.bool (compG [] re),H):=by
 have he:=Oq (PY caps top re hN hw);have hfz:frzArgs pol1 50 0 [.pt (reC re),.sl true []] H=some ([.pt (reC re),.sl true []],H):=AL H _ 0 (by
  have:AV.plain (.pt (reC re))=true:=by simp[AV.plain,AZ]
  simp only[mixOk,this,Bool.or_true,Bool.true_and];rfl)
 have hu:AV.underL 0 [.pt (reC re),.sl true []]=true:=by simp[AV.underL,AV.under,AE,AZ]
 rw[Bk];unfold evStep;rw[if_pos (show pol1.pure 50=true from rfl),hfz];simp only[hu,if_true];unfold evBody;rw[show pol1.ext 50=some ext49 from rfl];simp only[he];rfl
end
section
attribute [local go_sem] tySzE head?_drop Nat.mul_one AR AY AP AS AT Ad
theorem f14 (p:Pat) (hw:p.re.wt<=1000000) (H:List MB):call Pg pol1 24 [patAV p] H=some (.tup [prgAV (compP p).1,I (compP p).2],H):=by
 have h48:=f48 p hw;obtain⟨re,caps,runes⟩:=p;simp only at hw;have hl8:=AM re;have hpl:=Aw ⟨re,caps,runes⟩;have hget8:(reC re++[I caps,.bool runes])[8]?=some (I caps):=by rw[List.getElem?_append_right (by omega),hl8];rfl
 have hget9:(reC re++[I caps,.bool runes])[9]?=some (.bool runes):=by rw[List.getElem?_append_right (by omega),hl8];rfl
 have hdr:∀ l,(reC re++l).drop 8=l:=fun l=>by rw[List.drop_append_of_le_length (by omega),List.drop_of_length_le (by omega)];rfl
 have hdr9:(reC re++[I caps,.bool runes]).drop 9=[.bool runes]:=by rw[show (9:Nat)=8+1 from rfl,<- List.drop_drop,hdr];rfl
 have htk8:∀ l,List.take 8 (reC re++l)=reC re:=fun l=>by
  rw[List.take_append_of_le_length (by omega)];exact List.take_of_length_le (by omega)
 have hall:=Au re;have hz:∀ b,fz (.rf 0 1 0 0) [.row 10 [.agg (reC re++[I caps,.bool runes])] 0,b]=some (.pt (reC re++[I caps,.bool runes]),[.row 10 [.agg (reC re++[I caps,.bool runes])] 1,b]):=fun b=>
  HK (x:=.agg (reC re++[I caps,.bool runes])) (k:=10) (z:=0) rfl rfl rfl hpl
 have ht10:List.take 10 (patC ⟨re,caps,runes⟩)=patC ⟨re,caps,runes⟩:=List.take_of_length_le (by simp[hl8]);have hlen:(reC re).length+(0+1+1)=10:=by omega
 have hpl2:∀ x:Prg×Int,AV.plain (.tup [prgAV x.1,I x.2])=true:=fun x=>by simp[AV.plain,AV.plainL,AI]
 refine AX Tryz.func24 rfl rfl rfl rfl rfl rfl (fun _=>rfl) (by simp[AV.plainL,AV.plain];exact Aw _) (hpl2 _) ?_ H;unfold compP;by_cases hv:validP ⟨re,caps,runes⟩=0
 ·rw[if_pos hv];obtain⟨hsz,hdp,hc0,hc9,hwg⟩:=CK hv;simp only at hc0 hc9 hwg;rw[hv]at h48;have h49:=f49 _ _ re hw hwg;have h50:=f50 _ _ re.wt re (Nat.le_refl _) hw hwg;cases hc:compG [] re with
  | false=>
    rw[hc]at h49;rw[if_neg Bool.false_ne_true];simp +contextual (disch:=omega) only[Tryz.f24,dd24,go_sem,simprocAttr,evAppend,mu24,↓AD,↓AC,↓AB,↓AA,h48,h49,hz,ht10,hl8,hlen,hget8,hget9,hall,htk8,all_append,lookD,look];exact⟨_,rfl⟩
  | true=>
    rw[hc]at h49;rw[if_pos rfl];by_cases hL:lenG re+1<=8192
    ·rw[if_pos hL];have hg:GoodC caps (topI runes) re:=⟨hwg,C8 re [] hc⟩;have h51:=f51 caps (topI runes) (by omega) re hw hg (by omega);have hlc:=BE caps (topI runes) re 0 hg;rw[Nat.min_eq_left (by omega)]at h50;generalize codeG re 0=C at *;have hap:=fun b0 b1 x=>LH (H:=[b0,b1,.row 5 (C.map insAV) 0]) (i:=2) (n:=lenG re) (t:=true) (y:=.agg [I 0,I 0,I 0,I 0,.sl true x]) rfl (by rw[List.length_map];exact hlc) rfl (Nat.zero_le _) (by omega);simp +contextual (disch:=omega) only[Tryz.f24,dd24,go_sem,simprocAttr,mu24,↓AD,↓AC,↓AB,↓AA,h48,h49,h50,h51,hz,ht10,hl8,hlen,hget8,hget9,hall,htk8,hap,all_append,lookD,look];repeat' (first|intro _|apply And.intro|(unfold dOk;kernel_rfl)|(show (_||_)=true;kernel_rfl)|(show (_&&_)=true;kernel_rfl))
     have hk:∀ j H,fzL j (C.map insAV++[.agg [I 0,I 0,I 0,I 0,.sl true []]]) H=some ((C++[(⟨0,0,0,0,[]⟩:Ins)]).map insAV,H):=fun j H=>by
      rw[map_append];exact((HB C).append (.one fun H=>rfl)).fz H
     exact QC caps runes (by simp[hlc]) hk rfl
    ·rw[if_neg hL];simp +contextual (disch:=omega) only[Tryz.f24,dd24,go_sem,simprocAttr,evAppend,mu24,↓AD,↓AC,↓AB,↓AA,h48,h49,h50,hz,ht10,hl8,hlen,hget8,hget9,hall,htk8,all_append,lookD,look];exact⟨_,rfl⟩
 ·rw[if_neg hv];simp +contextual (disch:=omega) only[Tryz.f24,dd24,go_sem,simprocAttr,evAppend,mu24,↓AD,↓AC,↓AB,↓AA,h48,hv,hz,ht10,hl8,hlen,hget8,hget9,hall,htk8,all_append,lookD,look];exact⟨_,rfl⟩
end
end Go.Ev
namespace Go.Ev
attribute [local go_sem] evBin AV.cells AV.ok frzB Av BG bndO bnd evEq eqCells not_false_eq_true not_true_eq_false Af Array.size_empty length_append map_append
section
attribute [local go_sem] evAppend tySzE head?_drop Nat.mul_one AR AY AP AS AT Ad
section
variable {α:Type} (A K:List α) (x y v:α)
theorem Bs:(A++x::K)[A.length]?=some x:=by simp
theorem OH:(A++x::y::K)[A.length+1]?=some y:=by
 rw[List.getElem?_append_right (by omega)];simp
theorem JO:(A++x::K).set A.length v=A++v::K:=by simp
theorem OF:(A++x::y::K).set (A.length+1) v=A++x::v::K:=by
 rw[List.set_append_right _ _ (by omega)];simp
end
section
variable {k:IntKind}{a b:Int}
end
end
inductive Goal where
 | nil
 | mk (kind:Int) (re:Re) (k fr:Int) (next:Goal)
def goalA:Goal->AV
 | .nil=>.nilp
 | .mk kind re k fr next=>.pt (I kind::(reC re++[I k,I fr,goalA next]))
abbrev goalC (kind:Int) (re:Re) (k fr:Int) (next:Goal):List AV:=I kind::(reC re++[I k,I fr,goalA next])
theorem Bi:∀(a b:List AV),AV.plainL (a++b)=(AV.plainL a&&AV.plainL b)
 | [],b=>by simp[AV.plainL]
 | x::a,b=>by simp[AV.plainL,Bi a b,Bool.and_assoc]
theorem CI:∀ g:Goal,AV.plain (goalA g)=true
 | .nil=>rfl
 | .mk kind re k fr next=>by
   have h1:=CI next
   have h2:=AZ re;simp[goalA,AV.plain,AV.plainL,Bi,h1,h2]
theorem B5 (kind:Int) (re:Re) (k fr:Int) (next:Goal):AV.plainL (goalC kind re k fr next)=true:=by
 have h1:=CI next
 have h2:=AZ re;simp[AV.plain,AV.plainL,Bi,h1,h2]
abbrev Caps:=List (Int×Int)
abbrev capA (c:Caps):AV:=.sl false (c.map spanAV)
structure SS where
 steps:Int
 empty:Bool
 ends:List Int
 caps:List Caps
def withI (c:Caps) (n fr to:Int):Caps:=if 1<=n/\n<=c.length then c.set (n-1).toNat (fr,to) else c
def Re.op:Re->Int | .mk op _ _ _ _ _ _ _=>op
def Re.set:Re->List (Int×Int) | .mk _ set _ _ _ _ _ _=>set
def Re.kids:Re->List Re | .mk _ _ kids _ _ _ _ _=>kids
def Re.mn:Re->Int | .mk _ _ _ mn _ _ _ _=>mn
def Re.mx:Re->Int | .mk _ _ _ _ mx _ _ _=>mx
def Re.md:Re->Int | .mk _ _ _ _ _ md _ _=>md
def Re.n:Re->Int | .mk _ _ _ _ _ _ n _=>n
def stepS (fuel:Int) (s:SS):SS:=⟨s.steps+1,s.empty||decide (fuel<s.steps+1),s.ends,s.caps⟩
abbrev RunT:=Goal->Int->Caps->SS->Option (Bool×SS)
def orR (a:Option (Bool×SS)) (f:SS->Option (Bool×SS)):Option (Bool×SS):=
 match a with
 | none=>none
 | some (true,s)=>some (true,s)
 | some (false,s)=>f s
def repR (fuel:Int) (R:RunT) (re:Re) (k:Int) (next:Goal) (i:Int) (c:Caps) (s:SS):Option (Bool×SS):=
 let s1:=stepS fuel s
 if s1.empty=true then some (true,s1)
 else
  match re.kids with
  | []=>none
  | kid::_=>
    let once:=Goal.mk 0 kid 0 0 (.mk 2 re k i next)
    let more:Bool:=decide (re.mx = -1)||decide (k<re.mx)
    if k<re.mn then R once i c s1
    else if re.md=1 then orR (R next i c s1) fun s2=>if more then R once i c s2 else some (false,s2)
    else orR (if more then R once i c s1 else some (false,s1)) fun s2=>R next i c s2
def catG (next:Goal):List Re->Goal
 | []=>next
 | k::ks=>.mk 0 k 0 0 (catG next ks)
def altR (R:RunT) (next:Goal) (i:Int) (c:Caps):List Re->SS->Option (Bool×SS)
 | [],s=>some (false,s)
 | k::ks,s=>orR (R (.mk 0 k 0 0 next) i c s) (altR R next i c ks)
def nodeR (t:List Int) (fuel:Int) (R:RunT) (re:Re) (next:Goal) (i:Int) (c:Caps) (s:SS):Option (Bool×SS):=
 if re.op=4 then repR fuel R re 0 next i c s
 else
  let s1:=stepS fuel s
  if s1.empty=true then some (true,s1)
  else if re.op=1 then
   match t[i.toNat]? with
   | some x=>if hasSpan re.set x=true then R next (i+1) c s1 else some (false,s1)
   | none=>some (false,s1)
  else if re.op=2 then R (catG next re.kids) i c s1
  else if re.op=3 then altR R next i c re.kids s1
  else if re.op=5 then
   match re.kids with
   | []=>none
   | kid::_=>R (.mk 0 kid 0 0 (.mk 3 re 0 i next)) i c s1
  else if re.op=11 then(if assertI re.n (befS t i.toNat) t[i.toNat]?=true then R next i c s1 else some (false,s1))
  else R next i c s1
def runG (t:List Int) (fuel:Int):Nat->RunT
 | 0,_,_,_,_=>none
 | _+1,.nil,i,c,s=>some (false,⟨s.steps,s.empty,s.ends++[i],s.caps++[c]⟩)
 | d+1,.mk kind re k fr next,i,c,s=>
   if kind=1 then repR fuel (runG t fuel d) re k next i c s
   else if kind=2 then(if re.mn<=k/\i=fr then some (false,s) else runG t fuel d (.mk 1 re (k+1) 0 next) i c s)
   else if kind=3 then runG t fuel d next i (withI c re.n fr i) s
   else nodeR t fuel (runG t fuel d) re next i c s
end Go.Ev
namespace Go.Ev
attribute [local go_sem] evBin AV.cells AV.ok frzB Av BG bndO bnd evEq eqCells not_false_eq_true not_true_eq_false Af Array.size_empty length_append map_append
section
attribute [local go_sem] evAppend tySzE head?_drop Nat.mul_one AR AY AP AS AT Ad
section
variable {α:Type} (A K:List α) (x y z v:α)
theorem OG:(A++x::y::z::K)[A.length+2]?=some z:=by
 rw[List.getElem?_append_right (by omega)];simp
theorem OE:(A++x::y::z::K).set (A.length+2) v=A++x::y::v::K:=by
 rw[List.set_append_right _ _ (by omega)];simp
end
abbrev sB (m:Nat) (t:List Int) (fuel steps:Int) (empty:Bool) (e:Nat):MB:=.row 7 [.agg [.sl false (t.map I),I (-1),I fuel,I steps,.bool empty,.ms (m+1) 1 e 0 e,.ms (m+2) 1 e 0 e]] 0
abbrev srH (A:List MB) (t:List Int) (fuel:Int) (s:SS) (e:Nat) (K:List MB):List MB:=
 A++sB A.length t fuel s.steps s.empty e::.row 1 (s.ends.map I) 0::.row 1 (s.caps.map capA) 0::K
theorem EZ (l:List Caps):AV.plainL (l.map capA)=true:=by
 induction l with
 | nil=>rfl
 | cons a l ih=>simp[AV.plainL,AV.plain,AF,ih]
theorem F1 (n:Nat) (x y z x' y' z':MB) (K L:List MB) (h1:MB.under n x' = true) (h2:MB.under n y' = true) (h3:MB.under n z' = true):∀ A:List MB,keptOk n (A++x::y::z::K) (A++x'::y'::z'::(K++L))=true
 | []=>by
   simp only[nil_append,keptOk,h1,h2,h3,Bool.or_true,Bool.true_and];exact Bu n L K
 | a::A=>by simp[keptOk,MB.beq_refl,F1 n x y z x' y' z' K L h1 h2 h3 A]
theorem IJ {α:Type} (x y z x' y' z':α) (K L:List α):∀ A:List α,(A++x'::y'::z'::(K++L)).take (A++x::y::z::K).length=A++x'::y'::z'::K
 | []=>by simp
 | a::A=>by
   simp only[List.cons_append,length_cons,List.take_succ_cons,IJ x y z x' y' z' K L A]
theorem JJ {f:Nat} (hk:pol1.keep f=false) (ho:pol1.own f=false) (b:Bool) (A K L:List MB) (t:List Int) (fuel:Int) (s s':SS) (e e':Nat) :
  retPol pol1 f (srH A t fuel s e K) (.bool b) (srH A t fuel s' e' (K++L))=some (.bool b,srH A t fuel s' e' K):=
 Bt hk ho rfl (F1 _ _ _ _ _ _ _ _ _ (by simp[MB.under,AV.underL,AV.under,AE,AG]<;>omega) (by simp[MB.under,AE,AG]) (by simp[MB.under,AE,EZ]) A) (IJ _ _ _ _ _ _ _ _ _)
theorem MP {f:Nat} (hk:pol1.keep f=false) (ho:pol1.own f=false) (b:Bool) (A K:List MB) (t:List Int) (fuel:Int) (s s':SS) (e e':Nat) :
  retPol pol1 f (srH A t fuel s e K) (.bool b) (srH A t fuel s' e' K)=some (.bool b,srH A t fuel s' e' K):=by
 have:=JJ hk ho b A K [] t fuel s s' e e'
 rwa [List.append_nil]at this
theorem f161 (A K:List MB) (t:List Int) (fuel:Int) (s:SS) (e:Nat) (hs:0<=s.steps/\s.steps<=1000000000000) :
  call Pg pol1 149 [.rf A.length 1 0 0] (srH A t fuel s e K)=some (.bool (!(stepS fuel s).empty),srH A t fuel (stepS fuel s) e K):=by
 have fr:frzArgs pol1 149 0 [.rf A.length 1 0 0] (srH A t fuel s e K)=some ([.rf A.length 1 0 0],srH A t fuel s e K):=AL _ _ _ rfl;refine AO (pol:=pol1) Tryz.func149 rfl rfl rfl rfl fr ?_;have hw:IntKind.i64.wrap (s.steps+1)=s.steps+1:=by rw[i64_in]<;>omega
 have ret:=fun b s'=>MP (f:=149) rfl rfl b A K t fuel s s' e e;obtain⟨steps,empty,ends,caps⟩:=s;simp only at hs hw;by_cases h:fuel<steps+1
 ·have e1:stepS fuel ⟨steps,empty,ends,caps⟩=⟨steps+1,true,ends,caps⟩:=by simp[stepS,h]
  rw[e1];simp +contextual (disch:=omega) only[Tryz.f149,Qd,go_sem,simprocAttr,QV,↓AD,↓AC,↓AB,↓AA,Bs,JO,hw];repeat' (first|intro _|apply And.intro|(unfold dOk;kernel_rfl)|(show (_||_)=true;kernel_rfl)|(show (_&&_)=true;kernel_rfl))
  exact ret false ⟨steps+1,true,ends,caps⟩
 ·have e1:stepS fuel ⟨steps,empty,ends,caps⟩=⟨steps+1,empty,ends,caps⟩:=by simp[stepS,h]
  rw[e1];simp +contextual (disch:=omega) only[Tryz.f149,Qd,go_sem,simprocAttr,QV,↓AD,↓AC,↓AB,↓AA,Bs,JO,hw];repeat' (first|intro _|apply And.intro|(unfold dOk;kernel_rfl)|(show (_||_)=true;kernel_rfl)|(show (_&&_)=true;kernel_rfl))
  exact ret (!empty) ⟨steps+1,empty,ends,caps⟩
theorem f162 (l:List (Int×Int)) (x:Int) (hl:l.length<=1000000) (H:List MB):call Pg pol1 150 [.sl false (l.map spanAV),I x] H=some (.bool (hasSpan l x),H):=by
 refine AX Tryz.func150 rfl rfl rfl rfl rfl rfl (fun _=>rfl) (by simp[AV.plain,AV.plainL,AF]) rfl ?_ H;simp +contextual (disch:=omega) only[Tryz.f150,Kx,go_sem,simprocAttr,KV,↓AD,↓AC,↓AB,↓AA];refine Ae (M:=(mskOf (pol1.mask 150) (pol1.gc 150) (pol1.acts 150) 0 2)) rfl l.length (fun i=>(⟨28,[(5,I i),(1,I x),(0,.sl false (l.map spanAV))],[]⟩:St)) (fun i=>∀ k p,k<i->l[k]?=some p->¬ (p.1<=x/\x<=p.2)) ?_ ?_ (fun k p h=>by omega) _ (by first|rfl|(refine BD rfl (by rfl) (by rfl) (by rfl) ?_ ?_<;>simp[AV.underL,AV.under,MB.under,AE,AH,AG,AF,AI,AK,-map_take]))
 ·intro i hi hg;obtain⟨p,hp⟩:∃ p,l[i]?=some p:=⟨_,getElem?_eq_getElem hi⟩;by_cases hin:p.1<=x/\x<=p.2
  ·rw[Eg hp hin];simp +contextual (disch:=omega) only[Tryz.f150,Kx,go_sem,simprocAttr,KV,↓AD,↓AC,↓AB,↓AA,hp,spanAV];exact fzEq rfl rfl
  ·have ext:∀ k q,k<i+1->l[k]?=some q->¬ (q.1<=x/\x<=q.2):=fun k q hk hq=>by
    rcases Nat.lt_or_ge k i with h|h
    ·exact hg k q h hq
    ·obtain rfl:k=i:=by omega
     rw[hp]at hq;obtain rfl:=Option.some.inj hq;exact hin
   by_cases h1:p.1<=x
   ·simp +contextual (disch:=omega) only[Tryz.f150,Kx,go_sem,simprocAttr,KV,↓AD,↓AC,↓AB,↓AA,hp,spanAV];exact⟨ext,(by first|rfl|(refine BD rfl (by rfl) (by rfl) (by rfl) ?_ ?_<;>simp[AV.underL,AV.under,MB.under,AE,AH,AG,AF,AI,AK,-map_take]))⟩
   ·simp +contextual (disch:=omega) only[Tryz.f150,Kx,go_sem,simprocAttr,KV,↓AD,↓AC,↓AB,↓AA,hp,spanAV];exact⟨ext,(by first|rfl|(refine BD rfl (by rfl) (by rfl) (by rfl) ?_ ?_<;>simp[AV.underL,AV.under,MB.under,AE,AH,AG,AF,AI,AK,-map_take]))⟩
 ·intro hg;rw[Ef hg];simp +contextual (disch:=omega) only[Tryz.f150,Kx,go_sem,simprocAttr,KV,↓AD,↓AC,↓AB,↓AA];exact fzEq rfl rfl
theorem f167 (x:Int) (H:List MB):call Pg pol1 167 [I x] H=some (.bool (wordI x),H):=by
 refine AX Tryz.func167 rfl rfl rfl rfl rfl rfl (fun _=>rfl) rfl rfl ?_ H;simp +contextual (disch:=omega) only[Tryz.f167,Sj,go_sem,simprocAttr,R9,↓AD,↓AC,↓AB,↓AA];repeat' (first|intro _|apply And.intro|refine fzEq rfl (congrArg AV.bool ?_))
 all_goals (rw[Bool.eq_iff_iff];simp[wordI]<;>omega)
theorem f165 (n:Int) (t:List Int) (k:Nat) (hn:0<=n/\n<=5) (hk:k<=t.length) (ht:t.length<=1000000000) (H:List MB):call Pg pol1 153 [I n,.sl false (t.map I),I k] H=some (.bool (assertI n (befS t k) t[k]?),H):=by
 refine AX Tryz.func153 rfl rfl rfl rfl rfl rfl (fun _=>rfl) (by simp[AV.plain,AV.plainL,AG]) rfl ?_ H;rcases k with _|k
 ·rcases t with _|⟨x,t⟩
  ·simp +contextual (disch:=omega) only[Tryz.f153,Mm,go_sem,simprocAttr,MZ,↓AD,↓AC,↓AB,↓AA,f167];repeat' (first|intro _|apply And.intro|(unfold dOk;kernel_rfl)|(show (_&&_)=true;kernel_rfl)|(show (_||_)=true;kernel_rfl)|refine fzEq rfl (congrArg AV.bool ?_))
   all_goals (simp_all [assertI,befS];try (intros;omega))
  ·simp +contextual (disch:=omega) only[Tryz.f153,Mm,go_sem,simprocAttr,MZ,↓AD,↓AC,↓AB,↓AA,f167];repeat' (first|intro _|apply And.intro|(unfold dOk;kernel_rfl)|(show (_&&_)=true;kernel_rfl)|(show (_||_)=true;kernel_rfl)|refine fzEq rfl (congrArg AV.bool ?_))
   all_goals (simp_all [assertI,befS];try (intros;omega))
 ·obtain⟨x,hx⟩:∃ x,t[k]?=some x:=⟨_,getElem?_eq_getElem (by omega)⟩;by_cases hl:k+1<t.length
  ·obtain⟨y,hy⟩:∃ y,t[k+1]?=some y:=⟨_,getElem?_eq_getElem hl⟩;simp +contextual (disch:=omega) only[Tryz.f153,Mm,go_sem,simprocAttr,MZ,↓AD,↓AC,↓AB,↓AA,f167,hx,hy];repeat' (first|intro _|apply And.intro|(unfold dOk;kernel_rfl)|(show (_&&_)=true;kernel_rfl)|(show (_||_)=true;kernel_rfl)|refine fzEq rfl (congrArg AV.bool ?_))
   all_goals (simp_all [assertI,befS];try (intros;omega))
   all_goals (cases wordI x<;>cases wordI y<;>rfl)
  ·have hy:t[k+1]?=none:=List.getElem?_eq_none (by omega);simp +contextual (disch:=omega) only[Tryz.f153,Mm,go_sem,simprocAttr,MZ,↓AD,↓AC,↓AB,↓AA,f167,hx];repeat' (first|intro _|apply And.intro|(unfold dOk;kernel_rfl)|(show (_&&_)=true;kernel_rfl)|(show (_||_)=true;kernel_rfl)|refine fzEq rfl (congrArg AV.bool ?_))
   all_goals (simp_all [assertI,befS];try (intros;omega))
theorem f153 (c:Caps) (n fr to:Int) (hc:c.length<=1000) (H:List MB):call Pg pol1 132 [capA c,I n,I fr,I to] H=some (capA (withI c n fr to),H):=by
 refine AX Tryz.func132 rfl rfl rfl rfl rfl rfl (fun _=>rfl) (by simp[AV.plain,AV.plainL,AF]) (by simp[AV.plain,AF]) ?_ H;unfold withI;rcases c with _|⟨x,c⟩
 ·rw[if_neg (by simp;omega)];by_cases h1:1<=n
  ·simp +contextual (disch:=omega) only[Tryz.f132,Ky,go_sem,simprocAttr,KW,↓AD,↓AC,↓AB,↓AA];exact⟨_,rfl⟩
  ·simp +contextual (disch:=omega) only[Tryz.f132,Ky,go_sem,simprocAttr,KW,↓AD,↓AC,↓AB,↓AA];exact⟨_,rfl⟩
 ·simp only[length_cons]at hc;have hroom:=Ad (n:=c.length+1) (b:=16) (by omega) (by omega);have hal:((c.map spanAV).all fun y=>decide ((match y with | .agg cs=>cs|x=>[x]).length=2)&&(match y with | .agg cs=>cs|x=>[x]).all AV.ok)=true:=by
   rw[List.all_eq_true];intro y hy;obtain⟨p,_,rfl⟩:=List.mem_map.1 hy;rfl
  have hz:∀ d:Caps,d.length=c.length+1->∃ H',fz (.ms 0 2 (c.length+1) 0 (c.length+1)) [.row 2 (d.map spanAV) 0]=some (capA d,H'):=fun d hd=>
   ⟨_,De rfl (by rw[List.length_map];exact hd) (AF d)⟩
  by_cases h1:1<=n
  ·by_cases h2:n<=((x::c).length:Int)
   ·rw[if_pos ⟨h1,h2⟩];obtain⟨j,rfl⟩:∃ j:Nat,n=(j:Int)+1:=⟨(n-1).toNat,by omega⟩;simp only[length_cons]at h2;obtain⟨y,hy⟩:∃ y,(x::c)[j]?=some y:=⟨_,getElem?_eq_getElem (by simp;omega)⟩;have hy2:(spanAV x::List.map spanAV c)[j]?=some (spanAV y):=by
     have:((x::c).map spanAV)[j]?=some (spanAV y):=by rw[List.getElem?_map,hy];rfl
     exact this
    have hw:IntKind.i64.wrap ((j:Int)+1-1)=(j:Int):=by rw[i64_in]<;>omega
    have hj:((j:Int)+1-1)=(j:Int):=by omega
    have hset:(spanAV x::List.map spanAV c).set j (.agg [I fr,I to])=((x::c).set j (fr,to)).map spanAV:=by rw[List.map_set];rfl
    simp +contextual (disch:=omega) only[Tryz.f132,Ky,go_sem,simprocAttr,KW,↓AD,↓AC,↓AB,↓AA,hroom,hw,hy2,hj,hset];exact⟨hal,hz _ (by simp)⟩
   ·rw[if_neg (by omega)];simp only[length_cons]at h2;simp +contextual (disch:=omega) only[Tryz.f132,Ky,go_sem,simprocAttr,KW,↓AD,↓AC,↓AB,↓AA,hroom];exact⟨hal,hz (x::c) rfl⟩
  ·rw[if_neg (by omega)];simp +contextual (disch:=omega) only[Tryz.f132,Ky,go_sem,simprocAttr,KW,↓AD,↓AC,↓AB,↓AA,hroom];exact⟨hal,hz (x::c) rfl⟩
section
variable {cs xs:List AV}{k:IntKind}{n:Int}{b:Bool}{x a c d e f:Nat}
theorem BS:(AV.agg cs).cells=cs:=rfl
theorem BR:(AV.int k n).cells=[.int k n]:=rfl
theorem BB:(AV.bool b).cells=[.bool b]:=rfl
theorem Bm:(AV.sl b xs).cells=[.sl b xs]:=rfl
theorem Bn:(AV.rf a c d e).cells=[.rf a c d e]:=rfl
theorem Bo:(AV.pt xs).cells=[.pt xs]:=rfl
theorem A9:AV.nilp.cells=[.nilp]:=rfl
end
theorem BA (g:Goal):(goalA g).cells=[goalA g]:=by cases g<;>rfl
theorem AW (g:Goal):AV.ok (goalA g)=true:=by cases g<;>rfl
theorem Bq (r:Re) (n:Nat) (l:List AV):List.take (n+8) (reC r++l)=reC r++List.take n l:=by
 rw[List.take_append,AM,List.take_of_length_le (by rw[AM];omega)];congr 2
theorem Br (r:Re) (n:Nat) (l:List AV):List.drop (n+8) (reC r++l)=List.drop n l:=by
 rw[List.drop_append,AM,List.drop_of_length_le (by rw[AM];omega),nil_append];congr 1
end
mutual
def noPoss:Re->Bool
 | .mk op set kids mn mx md n neg=>decide (md≠2)&&noPossL kids
def noPossL:List Re->Bool
 | []=>true
 | k::ks=>noPoss k&&noPossL ks
end
theorem Fx:∀ l:List Re,noPossL l=true↔∀ k∈l,noPoss k=true
 | []=>by simp[noPossL]
 | k::ks=>by simp[noPossL,Fx ks]
structure RGood (caps top:Int) (r:Re):Prop where
 good:GoodC caps top r
 np:noPoss r=true
 sz:r.size<=256
theorem Re.sizeL_mem:∀ {l:List Re}{k:Re},k∈l->k.size<=Re.sizeL l
 | x::l,k,h=>by
   rcases List.mem_cons.1 h with e|e
   ·rw[e];simp[Re.sizeL]
   ·have:=Re.sizeL_mem e;simp[Re.sizeL];omega
theorem Re.sizeL_len:∀ l:List Re,l.length<=Re.sizeL l
 | []=>Nat.le_refl _
 | k::ks=>by
   have:=Re.size_pos k;have:=Re.sizeL_len ks;simp[Re.sizeL];omega
theorem RGood.kids {caps top:Int}{r:Re} (h:RGood caps top r):∀ k∈r.kids,RGood caps top k:=by
 obtain⟨op,set,kids,mn,mx,md,n,neg⟩:=r;intro k hk;have h1:=h.np;have h2:=h.sz;rw[noPoss,Bool.and_eq_true,Fx]at h1;have:=Re.sizeL_mem hk;simp only[Re.size,Re.kids]at h2 this;exact⟨h.good.kids k hk,h1.2 k hk,by omega⟩
theorem RGood.len {caps top:Int}{r:Re} (h:RGood caps top r):r.kids.length<=255:=by
 obtain⟨op,set,kids,mn,mx,md,n,neg⟩:=r;have h2:=h.sz;have:=Re.sizeL_len kids;simp only[Re.size,Re.kids]at h2 |-;omega
theorem RGood.md {caps top:Int}{r:Re} (h:RGood caps top r):r.md≠2:=by
 obtain⟨op,set,kids,mn,mx,md,n,neg⟩:=r;have h1:=h.np;rw[noPoss,Bool.and_eq_true,decide_eq_true_eq]at h1;exact h1.1
def GG (caps top:Int) (L:Int) (steps:Int):Goal->Prop
 | .nil=>True
 | .mk kind re k fr next=>RGood caps top re/\(kind=0∨(kind=1/\re.op=4/\0<=k/\k<=steps)∨(kind=2/\re.op=4/\0<=k/\k<steps)∨(kind=3/\re.op=5))/\(0<=fr/\fr<=L)/\GG caps top L steps next
theorem GG.mono {caps top L a b:Int} (hab:a<=b):∀ {g:Goal},GG caps top L a g->GG caps top L b g
 | .nil,_=>trivial
 | .mk kind re k fr next,h=>⟨h.1,by rcases h.2.1 with h|h|h|h<;>omega,h.2.2.1,h.2.2.2.mono hab⟩
theorem GG.cat {caps top L a:Int} (hL:0<=L) {next:Goal} (hn:GG caps top L a next):∀ {l:List Re},(∀ k∈l,RGood caps top k)->GG caps top L a (catG next l)
 | [],_=>hn
 | k::ks,h=>⟨h k (by simp),.inl rfl,⟨le_refl _,hL⟩,GG.cat hL hn (fun q hq=>h q (by simp[hq]))⟩
structure SPre (fuel:Int) (s:SS):Prop where
 ne:s.empty=false
 st:0<=s.steps/\s.steps<=fuel
 cl:s.caps.length=s.ends.length
 el:(s.ends.length:Int)<=256*s.steps
structure SPost (fuel:Int) (s:SS) (b:Bool) (s':SS):Prop where
 st:s.steps<=s'.steps
 eb:b=s'.empty
 fu:b=false->s'.steps<=fuel
 cl:s'.caps.length=s'.ends.length
 el:(s'.ends.length:Int)<=s.ends.length+1+256*(s'.steps-s.steps)
def RunP (caps top:Int) (t:List Int) (fuel:Int) (R:RunT):Prop:=
 ∀(g:Goal) (i:Int) (c:Caps) (s:SS) (b:Bool) (s':SS),GG caps top t.length s.steps g->0<=i->i<=t.length->c.length<=1000->SPre fuel s->R g i c s=some (b,s')->SPost fuel s b s'
variable {caps top:Int}{t:List Int}{fuel:Int}
theorem SPost.none {s:SS} (h:SPre fuel s):SPost fuel s false s:=⟨le_refl _,h.ne.symm,fun _=>h.st.2,h.cl,by omega⟩
theorem CQ {s:SS} (h:SPre fuel s) (he:(stepS fuel s).empty=false):SPre fuel (stepS fuel s)/\((stepS fuel s).ends.length:Int)<=256*(stepS fuel s).steps-256:=by
 have h1:=h.st;have h2:=h.el;simp only[stepS,h.ne,Bool.false_or,decide_eq_false_iff_not]at he;exact⟨⟨by simp[stepS,h.ne];omega,⟨by simp only[stepS];omega,by simp only[stepS];omega⟩,h.cl,by simp only[stepS];omega⟩,by simp only[stepS];omega⟩
theorem IK {s:SS} (h:SPre fuel s) (he:(stepS fuel s).empty=true):SPost fuel s true (stepS fuel s):=
 ⟨by simp only[stepS];omega,he.symm,fun e=>(by cases e),h.cl,by simp only[stepS];omega⟩
theorem SPost.after {s s1 s':SS}{b:Bool} (h1:s1=stepS fuel s) (h:SPost fuel s1 b s'):SPost fuel s b s':=by
 subst h1;have a:=h.st;have e:=h.el;simp only[stepS]at a e;exact⟨by omega,h.eb,h.fu,h.cl,by omega⟩
theorem SPost.pre {s s2:SS} (hp:SPre fuel s) (hx:(s.ends.length:Int)<=256*s.steps-256) (h:SPost fuel s false s2):SPre fuel s2:=by
 have a:=h.st;have e:=h.el;have f:=h.fu rfl;have p:=hp.st;exact⟨h.eb.symm,⟨by omega,f⟩,h.cl,by omega⟩
theorem SPost.trans {s s2 s':SS}{b:Bool} (h1:SPost fuel s false s2) (h2:SPost fuel s2 b s'):s.steps<=s'.steps/\b=s'.empty/\(b=false->s'.steps<=fuel)/\s'.caps.length=s'.ends.length/\(s'.ends.length:Int)<=s.ends.length+2+256*(s'.steps-s.steps):=by
 have a:=h1.st;have b':=h2.st;have c:=h1.el;have d:=h2.el;exact⟨by omega,h2.eb,h2.fu,h2.cl,by omega⟩
theorem JL {re:Re} (h:RGood caps top re) (ho:re.op=4):∃ kid,re.kids=[kid]/\RGood caps top kid:=by
 obtain⟨op,set,kids,mn,mx,md,n,neg⟩:=re;simp only[Re.op]at ho;subst ho;have hk:=(BC h.good.whole).2.1;obtain⟨k,rfl⟩:∃ k,kids=[k]:=List.length_eq_one_iff.1 (by simpa [kidsG] using hk);exact⟨k,rfl,h.kids k (by simp[Re.kids])⟩
theorem Jo {re:Re} (h:RGood caps top re) (ho:re.op=5):∃ kid,re.kids=[kid]/\RGood caps top kid:=by
 obtain⟨op,set,kids,mn,mx,md,n,neg⟩:=re;simp only[Re.op]at ho;subst ho;have hk:=(BC h.good.whole).2.1;obtain⟨k,rfl⟩:∃ k,kids=[k]:=List.length_eq_one_iff.1 (by simpa [kidsG] using hk);exact⟨k,rfl,h.kids k (by simp[Re.kids])⟩
theorem FW {re kid:Re}{next:Goal}{k i L steps:Int} (h:RGood caps top re) (hk:RGood caps top kid) (ho:re.op=4) (h0:0<=k/\k<steps) (hi:0<=i/\i<=L) (hn:GG caps top L steps next) :
 GG caps top L steps (.mk 0 kid 0 0 (.mk 2 re k i next)):=⟨hk,.inl rfl,⟨le_refl _,by omega⟩,h,.inr (.inr (.inl ⟨rfl,ho,h0.1,h0.2⟩)),hi,hn⟩
theorem KG {R:RunT} (hR:RunP caps top t fuel R) {re:Re}{k i:Int}{next:Goal}{c:Caps}{s s':SS}{b:Bool} (h:RGood caps top re) (ho:re.op=4) (hk:0<=k/\k<=s.steps) (hi:0<=i/\i<=t.length)
  (hn:GG caps top t.length s.steps next) (hc:c.length<=1000) (hs:SPre fuel s) (he:repR fuel R re k next i c s=some (b,s')):SPost fuel s b s':=by
 unfold repR at he;simp only at he;by_cases h1:(stepS fuel s).empty=true
 ·rw[if_pos h1]at he;simp only[Option.some.injEq,Prod.mk.injEq]at he;obtain⟨rfl,rfl⟩:=he;exact IK hs h1
 ·rw[if_neg h1]at he;have h1':(stepS fuel s).empty=false:=by simpa using h1
  obtain⟨p1,p2⟩:=CQ hs h1';obtain⟨kid,hkid,hgk⟩:=JL h ho;rw[hkid]at he;simp only at he;have hst:(stepS fuel s).steps=s.steps+1:=rfl;have hen:(stepS fuel s).ends.length=s.ends.length:=rfl;have hn1:=hn.mono (show s.steps<=(stepS fuel s).steps by omega);have hon:=FW (next:=next) (i:=i) (L:=t.length) (steps:=(stepS fuel s).steps) h hgk ho (k:=k) ⟨hk.1,by omega⟩ hi hn1;have A:∀ b s',R (.mk 0 kid 0 0 (.mk 2 re k i next)) i c (stepS fuel s)=some (b,s')->SPost fuel (stepS fuel s) b s':=fun b s' e=>hR _ _ _ _ _ _ hon hi.1 hi.2 hc p1 e;have B:∀ b s',R next i c (stepS fuel s)=some (b,s')->SPost fuel (stepS fuel s) b s':=fun b s' e=>hR _ _ _ _ _ _ hn1 hi.1 hi.2 hc p1 e
  have two:∀(g:Goal) (s2:SS) (b:Bool) (s':SS),GG caps top t.length (stepS fuel s).steps g->SPost fuel (stepS fuel s) false s2->R g i c s2=some (b,s')->SPost fuel s b s':=by
   intro g s2 b s' hg q e;have p3:=q.pre p1 p2;have q2:=hR _ _ _ _ _ _ (hg.mono q.st) hi.1 hi.2 hc p3 e;obtain⟨a1,a2,a3,a4,a5⟩:=q.trans q2;exact⟨by omega,a2,a3,a4,by omega⟩
  split at he
  ·exact(A _ _ he).after rfl
  ·split at he
   ·unfold orR at he;split at he
    ·cases he
    ·rename_i s2 e2;simp only[Option.some.injEq,Prod.mk.injEq]at he;obtain⟨rfl,rfl⟩:=he;exact(B _ _ e2).after rfl
    ·rename_i s2 e2;split at he
     ·exact two _ _ _ _ hon (B _ _ e2) he
     ·simp only[Option.some.injEq,Prod.mk.injEq]at he;obtain⟨rfl,rfl⟩:=he;exact(B _ _ e2).after rfl
   ·unfold orR at he;split at he
    ·cases he
    ·rename_i s2 e2;simp only[Option.some.injEq,Prod.mk.injEq]at he;obtain⟨rfl,rfl⟩:=he;split at e2
     ·exact(A _ _ e2).after rfl
     ·cases e2
    ·rename_i s2 e2;split at e2
     ·exact two _ _ _ _ hn1 (A _ _ e2) he
     ·simp only[Option.some.injEq,Prod.mk.injEq,true_and]at e2;subst e2;exact(B _ _ he).after rfl
theorem LI {R:RunT} (hR:RunP caps top t fuel R) {next:Goal}{i:Int}{c:Caps} (hi:0<=i/\i<=t.length) (hc:c.length<=1000) :
  ∀(l:List Re) (s s':SS) (b:Bool),(∀ k∈l,RGood caps top k)->GG caps top t.length s.steps next->SPre fuel s->(s.ends.length:Int)+l.length<=256*s.steps->altR R next i c l s=some (b,s') ->
   s.steps<=s'.steps/\b=s'.empty/\(b=false->s'.steps<=fuel)/\s'.caps.length=s'.ends.length/\(s'.ends.length:Int)<=s.ends.length+l.length+256*(s'.steps-s.steps)
 | [],s,s',b,_,_,hs,_,he=>by
   simp only[altR,Option.some.injEq,Prod.mk.injEq]at he;obtain⟨rfl,rfl⟩:=he;exact⟨le_refl _,hs.ne.symm,fun _=>hs.st.2,hs.cl,by simp⟩
 | k::ks,s,s',b,hg,hn,hs,hx,he=>by
   simp only[altR]at he;unfold orR at he;have A:∀ b s',R (.mk 0 k 0 0 next) i c s=some (b,s')->SPost fuel s b s':=fun b s' e=>
    hR (.mk 0 k 0 0 next) _ _ _ _ _ ⟨hg k (by simp),.inl rfl,⟨le_refl _,by omega⟩,hn⟩ hi.1 hi.2 hc hs e
   simp only[length_cons]at hx |-;split at he
   ·cases he
   ·rename_i s2 e2;simp only[Option.some.injEq,Prod.mk.injEq]at he;obtain⟨rfl,rfl⟩:=he;have q:=A _ _ e2;have a:=q.el;exact⟨q.st,q.eb,q.fu,q.cl,by omega⟩
   ·rename_i s2 e2;have q:=A _ _ e2;have a:=q.el;have b1:=q.st;have f:=q.fu rfl;have p0:=hs.st;obtain⟨r1,r2,r3,r4,r5⟩:=LI hR hi hc ks s2 s' b (fun x hx=>hg x (by simp[hx])) (hn.mono b1) ⟨q.eb.symm,⟨by omega,f⟩,q.cl,by omega⟩ (by omega) he;exact⟨by omega,r2,r3,r4,by omega⟩
theorem ND {R:RunT} (hR:RunP caps top t fuel R) {re:Re}{i:Int}{next:Goal}{c:Caps}{s s':SS}{b:Bool} (h:RGood caps top re) (hi:0<=i/\i<=t.length)
  (hn:GG caps top t.length s.steps next) (hc:c.length<=1000) (hs:SPre fuel s) (he:nodeR t fuel R re next i c s=some (b,s')):SPost fuel s b s':=by
 unfold nodeR at he;split at he
 ·rename_i ho;exact KG hR h ho ⟨le_refl _,hs.st.1⟩ hi hn hc hs he
 ·simp only at he;by_cases h1:(stepS fuel s).empty=true
  ·rw[if_pos h1]at he;simp only[Option.some.injEq,Prod.mk.injEq]at he;obtain⟨rfl,rfl⟩:=he;exact IK hs h1
  ·rw[if_neg h1]at he;have h1':(stepS fuel s).empty=false:=by simpa using h1
   obtain⟨p1,p2⟩:=CQ hs h1';have hst:(stepS fuel s).steps=s.steps+1:=rfl;have hn1:=hn.mono (show s.steps<=(stepS fuel s).steps by omega);have B:∀ b s',R next i c (stepS fuel s)=some (b,s')->SPost fuel (stepS fuel s) b s':=fun b s' e=>hR _ _ _ _ _ _ hn1 hi.1 hi.2 hc p1 e
   have Z:∀ b s',some (false,stepS fuel s)=some (b,s')->SPost fuel (stepS fuel s) b s':=fun b s' e=>by
    simp only[Option.some.injEq,Prod.mk.injEq]at e;obtain⟨rfl,rfl⟩:=e;exact SPost.none p1
   split at he
   ·split at he
    ·rename_i x hx;have hlt:=(List.getElem?_eq_some_iff.1 hx).1;split at he
     ·exact(hR _ _ _ _ _ _ hn1 (by omega) (by omega) hc p1 he).after rfl
     ·exact(Z _ _ he).after rfl
    ·exact(Z _ _ he).after rfl
   ·split at he
    ·exact(hR _ _ _ _ _ _ (GG.cat (by omega) hn1 h.kids) hi.1 hi.2 hc p1 he).after rfl
    ·split at he
     ·have hl:=h.len;obtain⟨r1,r2,r3,r4,r5⟩:=LI hR hi hc _ _ _ _ h.kids hn1 p1 (by omega) he;have hen:(stepS fuel s).ends.length=s.ends.length:=rfl;exact⟨by omega,r2,r3,r4,by omega⟩
     ·split at he
      ·rename_i ho;obtain⟨kid,hkid,hgk⟩:=Jo h ho;rw[hkid]at he;simp only at he;exact(hR (.mk 0 kid 0 0 (.mk 3 re 0 i next)) _ _ _ _ _ ⟨hgk,.inl rfl,⟨le_refl _,by omega⟩,h,.inr (.inr (.inr ⟨rfl,ho⟩)),hi,hn1⟩ hi.1 hi.2 hc p1 he).after rfl
      ·split at he
       ·split at he
        ·exact(B _ _ he).after rfl
        ·exact(Z _ _ he).after rfl
       ·exact(B _ _ he).after rfl
theorem Gb (c:Caps) (n a b:Int):(withI c n a b).length=c.length:=by
 unfold withI;split<;>simp
theorem FO (caps top:Int) (t:List Int) (fuel:Int):∀ d,RunP caps top t fuel (runG t fuel d)
 | 0=>fun g i c s b s' _ _ _ _ _ e=>by cases g<;>simp[runG]at e
 | d+1=>fun g i c s b s' hg h0 hL hc hs e=>by
   have ih:=FO caps top t fuel d;cases g with
   | nil=>
     simp only[runG,Option.some.injEq,Prod.mk.injEq]at e;obtain⟨rfl,rfl⟩:=e;exact⟨le_refl _,hs.ne.symm,fun _=>hs.st.2,by simp[hs.cl],by simp⟩
   | mk kind re k fr next=>
     obtain⟨g1,g2,g3,g4⟩:=hg;simp only[runG]at e;rcases g2 with rfl|⟨rfl,g2⟩|⟨rfl,g2⟩|⟨rfl,g2⟩
     ·rw[if_neg (by omega),if_neg (by omega),if_neg (by omega)]at e;exact ND ih g1 ⟨h0,hL⟩ g4 hc hs e
     ·rw[if_pos rfl]at e;exact KG ih g1 g2.1 g2.2 ⟨h0,hL⟩ g4 hc hs e
     ·rw[if_neg (by omega),if_pos rfl]at e;split at e
      ·simp only[Option.some.injEq,Prod.mk.injEq]at e;obtain⟨rfl,rfl⟩:=e;exact SPost.none hs
      ·exact ih (.mk 1 re (k+1) 0 next) _ _ _ _ _ ⟨g1,.inr (.inl ⟨rfl,g2.1,by omega,by omega⟩),⟨le_refl _,by omega⟩,g4⟩ h0 hL hc hs e
     ·rw[if_neg (by omega),if_neg (by omega),if_pos rfl]at e;exact ih _ _ _ _ _ _ g4 h0 hL (by rw[Gb];exact hc) hs e
end Go.Ev
namespace Go.Ev
attribute [local go_sem] evBin AV.cells AV.ok frzB Av BG bndO bnd evEq eqCells not_false_eq_true not_true_eq_false Af Array.size_empty length_append map_append
section
attribute [local go_sem] evAppend
theorem HL {j:List AV->List MB->Option (List AV×List MB)} (ys:List AV):∀(xs:List AV) (H:List MB),fzL j (xs++ys) H=(match fzL j xs H with
  | some (a,H1)=>(match fzL j ys H1 with
    | some (b,H2)=>some (a++b,H2)
    | none=>none)
  | none=>none)
 | [],H=>by
   simp only[nil_append,fzL];cases fzL j ys H with
   | none=>rfl
   | some q=>rfl
 | x::xs,H=>by
   simp only[List.cons_append,fzL];cases fzA j x H with
   | none=>rfl
   | some q=>
     simp only[HL ys xs q.2];cases fzL j xs q.2 with
     | none=>rfl
     | some q2=>
       simp only[];cases fzL j ys q2.2 with
       | none=>rfl
       | some q3=>rfl
end
end Go.Ev
