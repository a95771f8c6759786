/- What functions of the program compute; no further conditions. -/
import Derived.Test.YtdklnlnbemogbaaGreatC07
import Derived.Test.YtdklnlnbemogbaaGreatC17
import Derived.Test.YtdklnlnbemogbaaGreatC16
set_option linter.unusedVariables false
set_option linter.unusedSimpArgs false
namespace Go.Ev
attribute [local go_sem] evAppend
section
attribute [local go_sem] retE_norm retE_ret bndO bnd evEq eqCells not_false_eq_true not_true_eq_false toList_some Array.size_empty List.length_append List.map_append tySzE List.head?_drop Nat.mul_one sameAt_zero sameAt_two sameAt_three sameAt_four sameAt_five room_ok
open Go.Proofs Go.RowKit Go.IntWalk
set_option maxRecDepth 100000
set_option maxHeartbeats 4000000
def countW (d:Bool) (a:AutoL) (n:Int):Int×Int:=
 if validW d a≠0 then(0,validW d a) else if n<0∨4096<n then(0,5) else countA a.nx a.ac n.toNat
structure GoodA (a:AutoL):Prop where
 cl:a.cl.length≤1024
 pos:0<a.nx.length
 nx:a.nx.length≤1024
 ac:a.ac.length=a.nx.length
 rows:RowsOk a.nx a.cl.length
theorem valid_good {d:Bool}{a:AutoL} (h:validW d a=0):GoodA a∧d=true:=by
 unfold validW at h
 split at h
 ·cases h
 rename_i h1
 split at h
 ·cases h
 rename_i h2
 split at h
 ·rename_i h3
  refine⟨⟨by omega,by omega,by omega,by omega,fun row hr=>?_⟩,by cases d<;>simp_all⟩
  have:=List.all_eq_true.1 h3 row hr
  simp only[okRow,Bool.and_eq_true,decide_eq_true_eq,List.all_eq_true,okSt]at this
  exact this
 ·cases h
def cntD (nx:List (List Int)) (k:Nat):List Int:=(countsA nx k).getD []
theorem call_frzP {P:Program}{pol:Pol}{f:Nat}{args l:List AV}{H H1:List MB} (hp:pol.pure f=true) (h:frzArgs pol f 0 args H=some (l,H1)) (ha:AV.plainL l=true) :
  call P pol f args H=call P pol f l H1:=by
 have hf:∀(l:List AV) (i:Nat),AV.plainL l=true→frzArgs pol f i l H1=some (l,H1):=by
  intro l
  induction l with
  | nil=>intro i _;rfl
  | cons x l ih=>
    intro i h
    simp only[AV.plainL,Bool.and_eq_true]at h
    simp only[frzArgs,fz_plain H1 h.1,ih (i+1) h.2]
    split<;>simp_all
 rw[call_eq,call_eq]
 unfold evStep
 simp only[hp,if_true,h,hf l 0 ha]
theorem fz_i1 (b:MB) (l:List Int) (n:Nat) (hn:l.length=n):fz (.ms 1 1 n 0 n) [b,.row 1 (l.map I) 0]=some (.sl false (l.map I),[b,.row 1 (l.map I) n]):=by
 have h:=fz_row (id:=1) (k:=1) (z:=0) (tot:=n) (H:=[b,.row 1 (l.map I) 0]) rfl (by simp[hn]) (plain_ints l)
 rw[h]
 simp[mark,getRow]
theorem fz_i1n (b:MB) (l:List Int) (n:Nat) (hn:l.length=n):fz (.ms 1 1 n 0 n) [b,.row 1 (l.map I) n]=some (.sl false (l.map I),[b,.row 1 (l.map I) n]):=by
 have h:=fz_row (id:=1) (k:=1) (z:=n) (tot:=n) (H:=[b,.row 1 (l.map I) n]) rfl (by simp[hn]) (plain_ints l)
 rw[h]
 simp[mark,getRow]
theorem cntD_len0 (nx:List (List Int)):(cntD nx 0).length=nx.length:=by simp[cntD,countsA]
theorem accSum_app (ac:List Bool):∀(A B:List Int) (k:Nat),accSum ac (A++B) k=accSum ac A k+accSum ac B (k+A.length)
 | [],B,k=>by simp[accSum]
 | x::A,B,k=>by rw[List.cons_append,accSum,accSum,accSum_app ac A B,List.length_cons,show k+1+A.length=k+(A.length+1) by omega];omega
theorem accSum_take (ac:List Bool) {c:List Int}{s:Nat}{x:Int} (h:c[s]?=some x):accSum ac (c.take (s+1)) 0=accSum ac (c.take s) 0+if ac[s]?.getD false then x else 0:=by
 have hs:=(List.getElem?_eq_some_iff.1 h).1
 rw[List.take_add_one,h,Option.toList_some,accSum_app,List.length_take,Nat.zero_add,Nat.min_eq_left (by omega),accSum,accSum];simp
theorem countsA_none {nx:List (List Int)}{k:Nat} (h:countsA nx k=none):∀ {N:Nat},k≤N→countsA nx N=none
 | 0,hN=>by
   have:k=0:=by omega
   subst this;exact h
 | N+1,hN=>by
   by_cases e:k=N+1
   ·subst e;exact h
   ·rw[countsA,countsA_none h (N:=N) (by omega)]
theorem f22 (a:AutoL) (hb:AutoB a) (n:Int) (H:List MB) :
  call Tryz.prog pol1 22 [autoAV a,I n] H=some (.tup [I (countW (dividesA a.cl) a n).1,I (countW (dividesA a.cl) a n).2],H):=by
 have hpl:=plain_auto a
 have h18:=f18 a hb
 unfold countW
 generalize dividesA a.cl=d at *
 refine call_run Tryz.func22 rfl rfl rfl rfl rfl rfl (fun _=>rfl) (by simp only[AV.plainL,hpl];rfl) (by simp[AV.plain,AV.plainL]) ?_ H
 by_cases hv:validW d a=0
 ·obtain⟨hg,_⟩:=valid_good hv
  obtain⟨g1,g2,g3,g4,g5⟩:=hg
  rw[hv]at h18
  rw[if_neg (by simp[hv])]
  obtain⟨cl,nx,ac⟩:=a
  simp only at g1 g2 g3 g4 g5 ⊢
  by_cases hn:n<0∨4096<n
  ·rw[if_pos hn]
   by_cases h0:n<0
   ·simp +contextual (disch:=omega) only[Tryz.f22,dd22,go_sem,simprocAttr,mu22,↓wrap_up,↓wrap_down,↓wrap_pred,↓wrap_sub_nat,h18,h0]
    exact fzEq rfl rfl
   ·have h1:n > 4096:=by omega
    simp +contextual (disch:=omega) only[Tryz.f22,dd22,go_sem,simprocAttr,mu22,↓wrap_up,↓wrap_down,↓wrap_pred,↓wrap_sub_nat,h18,h0,h1]
    exact fzEq rfl rfl
  ·rw[if_neg hn]
   obtain⟨N,rfl⟩:∃ N:Nat,n=N:=⟨n.toNat,by omega⟩
   have hN:N≤4096:=by omega
   have h0:¬ ((N:Int)<0):=by omega
   have h1:¬ ((N:Int) > 4096):=by omega
   rw[Int.toNat_natCast]
   obtain⟨Z,hZ⟩:∃ Z,List.replicate nx.length (AV.int .i64 0)=Z:=⟨_,rfl⟩
   have hZl:Z.length=nx.length:=by rw[← hZ];simp
   have hZ0:Z[0]?=some (AV.int .i64 0):=by rw[← hZ];simp[g2]
   have hZs:Z.set 0 (AV.int .i64 1)=(cntD nx 0).map I:=by rw[← hZ];simp[cntD,countsA,List.map_set]
   have hfz:=fun b=>fz_i1 b (cntD nx 0) nx.length (cntD_len0 nx)
   simp +contextual (disch:=omega) only[Tryz.f22,dd22,go_sem,simprocAttr,mu22,↓wrap_up,↓wrap_down,↓wrap_pred,↓wrap_sub_nat,h18,h0,h1,hZ,hZl,hZ0,hZs,hfz]
   refine W_count (M:=(mskOf (pol1.mask 22) (pol1.gc 22) (pol1.acts 22) 0 9)) rfl N (fun k=>(⟨92,[(34,I k),(33,I N),(7,.sl false ((cntD nx k).map I)),(2,.rf 0 1 0 0)],[.row 3 [autoAV ⟨cl,nx,ac⟩] 0]⟩:St)) (fun k=>countsA nx k=some (cntD nx k)) ?_ ?_ rfl _ ?_
   ·intro k hk hc
    have hnext:countsA nx (k+1)=if(roundC (cntD nx k) nx 0 (List.replicate nx.length 0)).all (fun x=>decide (x≤maxN)) then some (roundC (cntD nx k) nx 0 (List.replicate nx.length 0)) else none:=by rw[countsA,hc]
    have hcl:=countsA_length nx k _ hc
    have hcn:=countsA_nonneg nx k _ hc
    have hcm:=countsA_le nx k _ hc
    have hmN:maxN=1099511627776:=rfl
    rw[hmN]at hcm
    have hck:cntD nx (k+1)=(countsA nx (k+1)).getD []:=rfl
    generalize cntD nx k=c at *
    have hZr:Z=(List.replicate nx.length (0:Int)).map I:=by rw[← hZ];simp
    have hRl:∀ s,(roundC c (nx.take s) 0 (List.replicate nx.length 0)).length=nx.length:=fun s=>by rw[roundC_length];simp
    simp +contextual (disch:=omega) only[Tryz.f22,dd22,go_sem,simprocAttr,mu22,↓wrap_up,↓wrap_down,↓wrap_pred,↓wrap_sub_nat,hZ,hZl]
    refine W_count (M:=(mskOf (pol1.mask 22) (pol1.gc 22) (pol1.acts 22) 0 12)) rfl c.length (fun s=>(⟨92,[(42,I s),(41,I c.length),(40,.sl false (c.map I)),(34,I k),(33,I N),(8,.ms 1 1 nx.length 0 nx.length),(2,.rf 0 1 0 0)],[.row 3 [autoAV ⟨cl,nx,ac⟩] 0,.row 1 ((roundC c (nx.take s) 0 (List.replicate nx.length 0)).map I) 0]⟩:St)) (fun s=>∀ y∈roundC c (nx.take s) 0 (List.replicate nx.length 0),0≤y∧y≤1125899906842624*(s:Int)) ?_ ?_ ?_ _ ?_
    ·intro s hs hb
     obtain⟨x,hx⟩:∃ x,c[s]?=some x:=⟨_,List.getElem?_eq_getElem hs⟩
     have hx':(c.map I)[s]?=some (I x):=by simp[hx]
     obtain⟨r,hr⟩:∃ r,nx[s]?=some r:=⟨_,List.getElem?_eq_getElem (by omega)⟩
     have hr':(nx.map rowAV)[s]?=some (rowAV r):=by simp[hr]
     have hst:=roundC_take c hr (List.replicate nx.length 0)
     rw[hx,Option.getD_some]at hst
     have b1:=hcn x (List.mem_of_getElem? hx)
     have b2:=hcm x (List.mem_of_getElem? hx)
     have hro:=g5 r (List.mem_of_getElem? hr)
     have hRs:=hRl s
     rw[hst]
     generalize roundC c (nx.take s) 0 (List.replicate nx.length 0)=A at *
     by_cases hx0:x=0
     ·subst hx0
      rw[addRow_zero]
      simp +contextual (disch:=omega) only[Tryz.f22,dd22,go_sem,simprocAttr,mu22,↓wrap_up,↓wrap_down,↓wrap_pred,↓wrap_sub_nat,hx']
      exact⟨fun y hy=>⟨(hb y hy).1,by have:=(hb y hy).2;omega⟩,(by first|rfl|(refine prep_cut rfl (by rfl) (by rfl) (by rfl) ?_ ?_<;>simp[AV.underL,AV.under,MB.under,underL_plain,under_plain,plain_ints,plain_span,plain_ins,plain_prg,-List.map_take,plain_ints,plain_cls,plain_rows,plain_bools9]))⟩
     ·simp +contextual (disch:=omega) only[Tryz.f22,dd22,go_sem,simprocAttr,mu22,↓wrap_up,↓wrap_down,↓wrap_pred,↓wrap_sub_nat,hx',hx0,hr']
      have hBl:∀ j,(addRow x A (r.take j)).length=nx.length:=fun j=>by rw[addRow_length];exact hRs
      refine W_count (M:=(mskOf (pol1.mask 22) (pol1.gc 22) (pol1.acts 22) 0 16)) rfl r.length (fun j=>(⟨92,[(55,I j),(54,I r.length),(53,rowAV r),(42,I s),(41,I c.length),(40,.sl false (c.map I)),(34,I k),(33,I N),(10,I x),(8,.ms 1 1 nx.length 0 nx.length),(2,.rf 0 1 0 0)],[.row 3 [autoAV ⟨cl,nx,ac⟩] 0,.row 1 ((addRow x A (r.take j)).map I) 0]⟩:St)) (fun j=>∀ y∈addRow x A (r.take j),0≤y∧y≤1125899906842624*(s:Int)+1099511627776*(j:Int)) ?_ ?_ ?_ _ ?_
      ·intro j hj hbj
       obtain⟨t,ht⟩:∃ t,r[j]?=some t:=⟨_,List.getElem?_eq_getElem hj⟩
       have ht':(r.map I)[j]?=some (I t):=by simp[ht]
       have htr:=hro.2 t (List.mem_of_getElem? ht)
       have hst2:=addRow_take x ht A
       have hB:=hBl j
       rw[hst2]
       generalize addRow x A (r.take j)=B at *
       obtain⟨v,hv2⟩:∃ v,B[t.toNat]?=some v:=⟨_,List.getElem?_eq_getElem (by omega)⟩
       have hv':(B.map I)[t.toNat]?=some (I v):=by simp[hv2]
       have hvb:=hbj v (List.mem_of_getElem? hv2)
       have hw:IntKind.i64.wrap (v+x)=v+x:=by rw[i64_in];omega
       have hset:(B.map I).set t.toNat (.int .i64 (v+x))=(B.set t.toNat (v+x)).map I:=by rw[List.map_set]
       rw[hv2,Option.getD_some]
       simp +contextual (disch:=omega) only[Tryz.f22,dd22,go_sem,simprocAttr,mu22,↓wrap_up,↓wrap_down,↓wrap_pred,↓wrap_sub_nat,ht',hv',hw,hset,hB]
       refine⟨fun y hy=>?_,?_⟩
       rotate_left
       ·generalize B.set t.toNat (v+x)=B2
        exact(by first|rfl|(refine prep_cut rfl (by rfl) (by rfl) (by rfl) ?_ ?_<;>simp[AV.underL,AV.under,MB.under,underL_plain,under_plain,plain_ints,plain_span,plain_ins,plain_prg,-List.map_take,plain_ints,plain_cls,plain_rows,plain_bools9]))
       rcases List.mem_or_eq_of_mem_set hy with h1|h1
       ·have:=hbj y h1
        omega
       ·omega
      ·intro hbj
       rw[List.take_length]at hbj ⊢
       simp +contextual (disch:=omega) only[Tryz.f22,dd22,go_sem,simprocAttr,mu22,↓wrap_up,↓wrap_down,↓wrap_pred,↓wrap_sub_nat]
       refine⟨fun y hy=>⟨(hbj y hy).1,?_⟩,(by first|rfl|(refine prep_cut rfl (by rfl) (by rfl) (by rfl) ?_ ?_<;>simp[AV.underL,AV.under,MB.under,underL_plain,under_plain,plain_ints,plain_span,plain_ins,plain_prg,-List.map_take,plain_ints,plain_cls,plain_rows,plain_bools9]))⟩
       have:=(hbj y hy).2
       have hrl:=hro.1
       omega
      ·intro y hy
       have:=hb y hy
       omega
      ·exact(by first|rfl|(refine prep_cut rfl (by rfl) (by rfl) (by rfl) ?_ ?_<;>simp[AV.underL,AV.under,MB.under,underL_plain,under_plain,plain_ints,plain_span,plain_ins,plain_prg,-List.map_take,plain_ints,plain_cls,plain_rows,plain_bools9]))
    ·intro hb
     have hRn:=hRl nx.length
     rw[hcl,List.take_length]at hb ⊢
     rw[List.take_length]at hRn
     generalize roundC c nx 0 (List.replicate nx.length 0)=R at *
     have hne:R≠[]:=fun e=>by rw[e]at hRn;simp at hRn;omega
     have h71:=f71 R hne (by omega)
     have hz1:=fun b=>fz_i1 b R nx.length hRn
     have hz2:=fun b=>fz_i1n b R nx.length hRn
     have h71m:∀ b:MB,call Tryz.prog pol1 71 [.ms 1 1 nx.length 0 nx.length] [b,.row 1 (R.map I) 0]=some (I (maxL R),[b,.row 1 (R.map I) nx.length]):=fun b=>by
      rw[call_frzP (l:=[.sl false (R.map I)]) (H1:=[b,.row 1 (R.map I) nx.length]) rfl ?_ (by simp only[AV.plainL,AV.plain,plain_ints];rfl)]
      ·exact h71 _
      ·have:pol1.byref 71 0=false:=rfl
       simp only[frzArgs,this,hz1 b]
       rfl
     have hmx:=maxL_le hne maxN
     rw[hmN]at hmx
     by_cases hm:maxL R≤1099511627776
     ·have hm':¬ maxL R > 1099511627776:=by omega
      have hall:R.all (fun x=>decide (x≤maxN))=true:=by
       rw[hmN];simpa only[List.all_eq_true,decide_eq_true_eq] using hmx.1 hm
      rw[if_pos hall]at hnext
      have hcd:cntD nx (k+1)=R:=by rw[hck,hnext];rfl
      rw[hcd,hnext]
      simp +contextual (disch:=omega) only[Tryz.f22,dd22,go_sem,simprocAttr,mu22,↓wrap_up,↓wrap_down,↓wrap_pred,↓wrap_sub_nat,h71m,hz1,hz2,hm']
      exact(by first|rfl|(refine prep_cut rfl (by rfl) (by rfl) (by rfl) ?_ ?_<;>simp[AV.underL,AV.under,MB.under,underL_plain,under_plain,plain_ints,plain_span,plain_ins,plain_prg,-List.map_take,plain_ints,plain_cls,plain_rows,plain_bools9]))
     ·have hm':maxL R > 1099511627776:=by omega
      have hall:¬ R.all (fun x=>decide (x≤maxN))=true:=by
       rw[hmN];simpa only[List.all_eq_true,decide_eq_true_eq] using fun h=>hm (hmx.2 h)
      rw[if_neg hall]at hnext
      have e4:countA nx ac N=(0,4):=by unfold countA;rw[countsA_none hnext (by omega)]
      rw[e4]
      simp +contextual (disch:=omega) only[Tryz.f22,dd22,go_sem,simprocAttr,mu22,↓wrap_up,↓wrap_down,↓wrap_pred,↓wrap_sub_nat,h71m,hz1,hz2,hm']
      exact fzEq rfl rfl
    ·intro y hy
     rw[List.eq_of_mem_replicate (show y∈List.replicate nx.length (0:Int) from hy)]
     omega
    ·rw[show roundC c (nx.take 0) 0 (List.replicate nx.length 0)=List.replicate nx.length 0 from rfl,hZr]
     generalize List.replicate nx.length (0:Int)=z0
     exact(by first|rfl|(refine prep_cut rfl (by rfl) (by rfl) (by rfl) ?_ ?_<;>simp[AV.underL,AV.under,MB.under,underL_plain,under_plain,plain_ints,plain_span,plain_ins,plain_prg,-List.map_take,plain_ints,plain_cls,plain_rows,plain_bools9]))
   ·intro hc
    have e:countA nx ac N=if maxN<accSum ac (cntD nx N) 0 then(0,4) else(accSum ac (cntD nx N) 0,0):=by unfold countA;rw[hc]
    rw[e]
    have hcl:=countsA_length nx N _ hc
    have hcn:=countsA_nonneg nx N _ hc
    have hcm:=countsA_le nx N _ hc
    generalize cntD nx N=c at *
    simp +contextual (disch:=omega) only[Tryz.f22,dd22,go_sem,simprocAttr,mu22,↓wrap_up,↓wrap_down,↓wrap_pred,↓wrap_sub_nat]
    refine W_count (M:=(mskOf (pol1.mask 22) (pol1.gc 22) (pol1.acts 22) 0 27)) rfl c.length (fun s=>(⟨92,[(75,I s),(74,I c.length),(73,.sl false (c.map I)),(13,I (accSum ac (c.take s) 0)),(2,.rf 0 1 0 0)],[.row 3 [autoAV ⟨cl,nx,ac⟩] 0]⟩:St)) (fun s=>0≤accSum ac (c.take s) 0∧accSum ac (c.take s) 0≤1099511627776*(s:Int)) ?_ ?_ ⟨by simp[accSum],by simp[accSum]⟩ _ ?_
    ·intro s hs hb
     obtain⟨x,hx⟩:∃ x,c[s]?=some x:=⟨_,List.getElem?_eq_getElem hs⟩
     have hx':(c.map I)[s]?=some (I x):=by simp[hx]
     obtain⟨y,hy⟩:∃ y,ac[s]?=some y:=⟨_,List.getElem?_eq_getElem (by omega)⟩
     have hy':(ac.map AV.bool)[s]?=some (.bool y):=by simp[hy]
     have hst:=accSum_take ac hx
     rw[hy]at hst
     have b1:=hcn x (List.mem_of_getElem? hx)
     have b2:=hcm x (List.mem_of_getElem? hx)
     have hmN:maxN=1099511627776:=rfl
     rw[hmN]at b2
     have hw:IntKind.i64.wrap (accSum ac (c.take s) 0+x)=accSum ac (c.take s) 0+x:=by rw[i64_in];omega
     cases y with
     | true=>
       simp only[Option.getD_some,if_true]at hst
       rw[hst]
       simp +contextual (disch:=omega) only[Tryz.f22,dd22,go_sem,simprocAttr,mu22,↓wrap_up,↓wrap_down,↓wrap_pred,↓wrap_sub_nat,hx',hy',hw]
       exact(by first|rfl|(refine prep_cut rfl (by rfl) (by rfl) (by rfl) ?_ ?_<;>simp[AV.underL,AV.under,MB.under,underL_plain,under_plain,plain_ints,plain_span,plain_ins,plain_prg,-List.map_take,plain_ints,plain_cls,plain_rows,plain_bools9]))
     | false=>
       simp only[Option.getD_some,Bool.false_eq_true,if_false]at hst
       rw[hst]
       rw[Int.add_zero]
       simp +contextual (disch:=omega) only[Tryz.f22,dd22,go_sem,simprocAttr,mu22,↓wrap_up,↓wrap_down,↓wrap_pred,↓wrap_sub_nat,hx',hy']
       exact(by first|rfl|(refine prep_cut rfl (by rfl) (by rfl) (by rfl) ?_ ?_<;>simp[AV.underL,AV.under,MB.under,underL_plain,under_plain,plain_ints,plain_span,plain_ins,plain_prg,-List.map_take,plain_ints,plain_cls,plain_rows,plain_bools9]))
    ·intro hb
     rw[List.take_length]at hb ⊢
     generalize accSum ac c 0=S at *
     by_cases hS:maxN<S
     ·have hS':S > 1099511627776:=hS
      rw[if_pos hS]
      simp +contextual (disch:=omega) only[Tryz.f22,dd22,go_sem,simprocAttr,mu22,↓wrap_up,↓wrap_down,↓wrap_pred,↓wrap_sub_nat,hS']
      exact fzEq rfl rfl
     ·have hS':¬ S > 1099511627776:=hS
      rw[if_neg hS]
      simp +contextual (disch:=omega) only[Tryz.f22,dd22,go_sem,simprocAttr,mu22,↓wrap_up,↓wrap_down,↓wrap_pred,↓wrap_sub_nat,hS']
      exact fzEq rfl rfl
    ·rw[show accSum ac (c.take 0) 0=0 from rfl]
     exact(by first|rfl|(refine prep_cut rfl (by rfl) (by rfl) (by rfl) ?_ ?_<;>simp[AV.underL,AV.under,MB.under,underL_plain,under_plain,plain_ints,plain_span,plain_ins,plain_prg,-List.map_take,plain_ints,plain_cls,plain_rows,plain_bools9]))
   ·exact(by first|rfl|(refine prep_cut rfl (by rfl) (by rfl) (by rfl) ?_ ?_<;>simp[AV.underL,AV.under,MB.under,underL_plain,under_plain,plain_ints,plain_span,plain_ins,plain_prg,-List.map_take,plain_ints,plain_cls,plain_rows,plain_bools9]))
 ·rw[if_pos hv]
  obtain⟨cl,nx,ac⟩:=a
  simp +contextual (disch:=omega) only[Tryz.f22,dd22,go_sem,simprocAttr,mu22,↓wrap_up,↓wrap_down,↓wrap_pred,↓wrap_sub_nat,h18,hv]
  exact fzEq rfl rfl
end
section
attribute [local go_sem] retE_norm retE_ret bndO bnd evEq eqCells not_false_eq_true not_true_eq_false toList_some Array.size_empty List.length_append List.map_append tySzE List.head?_drop Nat.mul_one sameAt_zero sameAt_two sameAt_three sameAt_four sameAt_five room_ok
open Go.Proofs Go.RowKit Go.IntWalk
set_option maxRecDepth 100000
set_option maxHeartbeats 4000000
def topF (l:List (Int×Int)):Int:=l.foldl (fun o p=>max o p.2) (-1)
theorem topF_go:∀(l:List (Int×Int)) (o:Int),-1≤o→l.foldl (fun o p=>max o p.2) o=max o (topZ l)
 | [],o,h=>by simp only[List.foldl_nil,topZ];omega
 | p::l,o,h=>by rw[List.foldl_cons,topF_go l _ (by omega),topZ];omega
theorem topF_eq (l:List (Int×Int)):topF l=topZ l:=by
 have:=topZ_low l
 rw[topF,topF_go l (-1) (by omega)];omega
theorem topF_snoc (l:List (Int×Int)) (p:Int×Int):topF (l++[p])=max (topF l) p.2:=by simp[topF]
theorem flat_take {L:Cls}{i:Nat}{s:List (Int×Int)} (h:L[i]?=some s):(L.take (i+1)).flatten=(L.take i).flatten++s:=by
 rw[List.take_add_one,h,Option.toList_some,List.flatten_append];simp
theorem take_snoc {s:List (Int×Int)}{k:Nat}{p:Int×Int} (h:s[k]?=some p):s.take (k+1)=s.take k++[p]:=by
 rw[List.take_add_one,h];rfl
theorem f134 (L:Cls) (hl:L.length≤1000000) (hsl:∀ s∈L,s.length≤1000000) (H:List MB):call Tryz.prog pol1 134 [.sl false (L.map setAV9)] H=some (I (topZ L.flatten),H):=by
 have hpl:=plain_cls L
 rw[← topF_eq]
 refine call_run Tryz.func134 rfl rfl rfl rfl rfl rfl (fun _=>rfl) (by simp[AV.plain,AV.plainL,hpl]) (by simp[AV.plain]) ?_ H
 simp +contextual (disch:=omega) only[Tryz.f134,dd134,go_sem,simprocAttr,mu134,↓wrap_up,↓wrap_down,↓wrap_pred,↓wrap_sub_nat]
 refine W_count (M:=(mskOf (pol1.mask 134) (pol1.gc 134) (pol1.acts 134) 0 3)) rfl L.length (fun i=>(⟨32,[(4,I i),(3,I (topF (L.take i).flatten)),(0,.sl false (L.map setAV9))],[]⟩:St)) (fun i=>True) ?_ ?_ trivial _ rfl
 ·intro i hi _
  obtain⟨s,hsi⟩:∃ s,L[i]?=some s:=⟨_,List.getElem?_eq_getElem hi⟩
  have hsi':(L.map setAV9)[i]?=some (setAV9 s):=by simp[hsi]
  have hs1:=hsl s (List.mem_of_getElem? hsi)
  rw[flat_take hsi]
  generalize (L.take i).flatten=F
  simp +contextual (disch:=omega) only[Tryz.f134,dd134,go_sem,simprocAttr,mu134,↓wrap_up,↓wrap_down,↓wrap_pred,↓wrap_sub_nat]
  refine W_count (M:=(mskOf (pol1.mask 134) (pol1.gc 134) (pol1.acts 134) 0 6)) rfl s.length (fun k=>(⟨32,[(5,I k),(4,I i),(3,I (topF (F++s.take k))),(0,.sl false (L.map setAV9))],[]⟩:St)) (fun i=>True) ?_ ?_ trivial _ (by rw[List.take_zero,List.append_nil];rfl)
  ·intro k hk _
   obtain⟨p,hp⟩:∃ p,s[k]?=some p:=⟨_,List.getElem?_eq_getElem hk⟩
   have hp':(s.map spanAV)[k]?=some (spanAV p):=by simp[hp]
   rw[take_snoc hp,← List.append_assoc,topF_snoc]
   simp +contextual (disch:=omega) only[Tryz.f134,dd134,go_sem,simprocAttr,mu134,↓wrap_up,↓wrap_down,↓wrap_pred,↓wrap_sub_nat,hsi',hp',evMax_int]
   rfl
  ·intro _
   rw[List.take_length]
   simp +contextual (disch:=omega) only[Tryz.f134,dd134,go_sem,simprocAttr,mu134,↓wrap_up,↓wrap_down,↓wrap_pred,↓wrap_sub_nat,hsi']
   rfl
 ·intro _
  rw[List.take_length]
  simp +contextual (disch:=omega) only[Tryz.f134,dd134,go_sem,simprocAttr,mu134,↓wrap_up,↓wrap_down,↓wrap_pred,↓wrap_sub_nat]
  exact fzEq rfl rfl
theorem sumZ_app:∀(A B:List (Int×Int)),sumZ (A++B)=sumZ A+sumZ B
 | [],B=>by simp[sumZ]
 | p::A,B=>by rw[List.cons_append,sumZ,sumZ,sumZ_app A B];omega
theorem f135 (s:List (Int×Int)) (h:refSpans s=0) (H:List MB):call Tryz.prog pol1 135 [.sl false (s.map spanAV)] H=some (.tup [I (sumZ s),I 0],H):=by
 have hpl:=plain_span s
 have hlen:=(refSpans_ok h).2
 have hmem:=refSpans_mem h
 have h119:=f119 s (by omega)
 rw[h]at h119
 refine call_run Tryz.func135 rfl rfl rfl rfl rfl rfl (fun _=>rfl) (by simp[AV.plain,AV.plainL,hpl]) (by simp[AV.plain,AV.plainL]) ?_ H
 simp +contextual (disch:=omega) only[Tryz.f135,dd135,go_sem,simprocAttr,mu135,↓wrap_up,↓wrap_down,↓wrap_pred,↓wrap_sub_nat,h119]
 refine W_count (M:=(mskOf (pol1.mask 135) (pol1.gc 135) (pol1.acts 135) 0 6)) rfl s.length (fun k=>(⟨33,[(6,I k),(5,I (sumZ (s.take k))),(0,.sl false (s.map spanAV))],[]⟩:St)) (fun k=>0≤sumZ (s.take k)∧sumZ (s.take k)≤1114112*(k:Int)) ?_ ?_ ⟨by simp[sumZ],by simp[sumZ]⟩ _ rfl
 ·intro k hk hb
  obtain⟨p,hp⟩:∃ p,s[k]?=some p:=⟨_,List.getElem?_eq_getElem hk⟩
  have hp':(s.map spanAV)[k]?=some (spanAV p):=by simp[hp]
  have hpb:=hmem p (List.mem_of_getElem? hp)
  have hst:sumZ (s.take (k+1))=sumZ (s.take k)+p.2-p.1+1:=by rw[take_snoc hp,sumZ_app,sumZ,sumZ];omega
  rw[hst]
  generalize sumZ (s.take k)=m at *
  have w1:IntKind.i64.wrap (m+p.2)=m+p.2:=by rw[i64_in];omega
  have w2:IntKind.i64.wrap (m+p.2-p.1)=m+p.2-p.1:=by rw[i64_in];omega
  have w3:IntKind.i64.wrap (m+p.2-p.1+1)=m+p.2-p.1+1:=by rw[i64_in];omega
  simp +contextual (disch:=omega) only[Tryz.f135,dd135,go_sem,simprocAttr,mu135,↓wrap_up,↓wrap_down,↓wrap_pred,↓wrap_sub_nat,hp',w1,w2,w3]
  exact⟨by unfold dOk;kernel_rfl,rfl⟩
 ·intro hb
  rw[List.take_length]
  simp +contextual (disch:=omega) only[Tryz.f135,dd135,go_sem,simprocAttr,mu135,↓wrap_up,↓wrap_down,↓wrap_pred,↓wrap_sub_nat]
  exact fzEq rfl rfl
end
section
attribute [local go_sem] retE_norm retE_ret bndO bnd evEq eqCells not_false_eq_true not_true_eq_false toList_some Array.size_empty List.length_append List.map_append tySzE List.head?_drop Nat.mul_one sameAt_zero sameAt_two sameAt_three sameAt_four sameAt_five room_ok
open Go.Proofs Go.RowKit Go.IntWalk
set_option maxRecDepth 100000
set_option maxHeartbeats 4000000
theorem meetS_at {s t:List (Int×Int)}{a b:Nat}{p q:Int×Int} (ha:s[a]?=some p) (hb:t[b]?=some q) (h:p.1≤q.2∧q.1≤p.2):meetS s t=true:=by
 unfold meetS
 rw[List.any_eq_true]
 refine⟨p,List.mem_of_getElem? ha,?_⟩
 rw[List.any_eq_true]
 exact⟨q,List.mem_of_getElem? hb,by simp[h]⟩
theorem meetS_none {s t:List (Int×Int)} (h:∀ a,a<s.length→∀ p,s[a]?=some p→∀ b,b<t.length→∀ q,t[b]?=some q→¬ (p.1≤q.2∧q.1≤p.2)):meetS s t=false:=by
 rw[meetS_not]
 intro p hp q hq
 obtain⟨a,ha,e1⟩:=List.getElem_of_mem hp
 obtain⟨b,hb,e2⟩:=List.getElem_of_mem hq
 have:=h a ha p (by rw[List.getElem?_eq_getElem ha,e1]) b hb q (by rw[List.getElem?_eq_getElem hb,e2])
 unfold apartZ
 omega
theorem parted_bad {L:Cls}{i:Nat} (hi:i<L.length) (h:(badC L i||badM L i)=true):partedA L=false:=by
 have:(List.range L.length).any (fun i=>badC L i||badM L i)=true:=List.any_eq_true.2 ⟨i,List.mem_range.2 hi,h⟩
 simp[partedA,this]
theorem parted_good {L:Cls} (ht:topZ L.flatten=255∨topZ L.flatten=1114111) (h:∀ k,k<L.length→(badC L k||badM L k)=false):partedA L=decide (sumZ L.flatten=topZ L.flatten+1):=by
 have:(List.range L.length).any (fun i=>badC L i||badM L i)=false:=by
  rw[List.any_eq_false]
  intro k hk
  rw[h k (List.mem_range.1 hk)];simp
 have h2:(decide (topZ L.flatten=255)||decide (topZ L.flatten=1114111))=true:=by simpa using ht
 rw[partedA,this,h2];rfl
theorem sumZ_bound:∀ {s:List (Int×Int)},(∀ p∈s,0≤p.1∧p.1≤p.2∧p.2≤1114111)→0≤sumZ s∧sumZ s≤1114112*(s.length:Int)
 | [],_=>by simp[sumZ]
 | p::s,h=>by
   have h1:=h p (by simp)
   have h2:=sumZ_bound (s:=s) (fun q hq=>h q (by simp[hq]))
   rw[sumZ,List.length_cons];omega
theorem f76 (L:Cls) (hl:L.length≤1000000) (hsl:∀ s∈L,s.length≤1000000) (H:List MB):call Tryz.prog pol1 76 [.sl false (L.map setAV9)] H=some (.bool (partedA L),H):=by
 have hpl:=plain_cls L
 have h134:=f134 L hl hsl
 refine call_run Tryz.func76 rfl rfl rfl rfl rfl rfl (fun _=>rfl) (by simp[AV.plain,AV.plainL,hpl]) (by simp[AV.plain]) ?_ H
 by_cases ht:topZ L.flatten=255∨topZ L.flatten=1114111
 ·obtain⟨T,hT⟩:∃ T,T=topZ L.flatten:=⟨_,rfl⟩
  rw[← hT]at h134 ht
  have hg:=fun h=>parted_good (L:=L) (by rw[← hT];exact ht) h
  rw[← hT]at hg
  have ht2:¬ (T≠255∧T≠1114111):=by omega
  have go:(T=255∧¬ T≠255)∨(T≠255∧¬ T≠1114111):=by omega
  rcases go with ⟨_,n1⟩|⟨n1,n2⟩
  all_goals
   first
   | (have n3:=n2
      simp +contextual (disch:=omega) only[Tryz.f76,dd76,go_sem,simprocAttr,mu76,↓wrap_up,↓wrap_down,↓wrap_pred,↓wrap_sub_nat,h134,n1,n3])
   | simp +contextual (disch:=omega) only[Tryz.f76,dd76,go_sem,simprocAttr,mu76,↓wrap_up,↓wrap_down,↓wrap_pred,↓wrap_sub_nat,h134,n1]
   refine W_count (M:=(mskOf (pol1.mask 76) (pol1.gc 76) (pol1.acts 76) 0 6)) rfl L.length (fun i=>(⟨135,[(5,I i),(4,I (sumZ (L.take i).flatten)),(3,I T),(0,.sl false (L.map setAV9))],[]⟩:St)) (fun i=>(∀ k,k<i→(badC L k||badM L k)=false)∧0≤sumZ (L.take i).flatten∧sumZ (L.take i).flatten≤71303168*(i:Int)) ?_ ?_ ⟨fun k h=>by omega,by simp[sumZ],by simp[sumZ]⟩ _ rfl
   ·rintro i hi ⟨hinv,hb1,hb2⟩
    obtain⟨s,hsi⟩:∃ s,L[i]?=some s:=⟨_,List.getElem?_eq_getElem hi⟩
    have hsi':(L.map setAV9)[i]?=some (setAV9 s):=by simp[hsi]
    have hs1:=hsl s (List.mem_of_getElem? hsi)
    have h119:=f119 s hs1
    have bad:=fun(h:badC L i=true)=>parted_bad (L:=L) hi (by rw[h];rfl)
    cases s with
    | nil=>
      rw[bad (by simp[badC,hsi])]
      simp +contextual (disch:=omega) only[Tryz.f76,dd76,go_sem,simprocAttr,mu76,↓wrap_up,↓wrap_down,↓wrap_pred,↓wrap_sub_nat,hsi']
      exact⟨by unfold dOk;kernel_rfl,fzEq rfl rfl⟩
    | cons p s=>
      by_cases hv:refSpans (p::s)=0
      ·rw[hv]at h119
       have h135:=f135 (p::s) hv
       have hp0:((p::s).map spanAV)[0]?=some (spanAV p):=rfl
       have hlen:=(refSpans_ok hv).2
       have hmem:=refSpans_mem hv
       have hsz:sumZ (L.take (i+1)).flatten=sumZ (L.take i).flatten+sumZ (p::s):=by rw[flat_take hsi,sumZ_app]
       have hsb:=sumZ_bound hmem
       generalize hgs:sumZ (p::s)=z at *
       rw[hsz]
       generalize sumZ (L.take i).flatten=m at *
       have hw:IntKind.i64.wrap (m+z)=m+z:=by rw[i64_in];omega
       have hpre:i=0∨∃ k q t,i=k+1∧L[k]?=some (q::t):=by
        rcases i with _|k
        ·exact .inl rfl
        ·obtain⟨t,ht⟩:∃ t,L[k]?=some t:=⟨_,List.getElem?_eq_getElem (by omega)⟩
         have hbk:=(Bool.or_eq_false_iff.1 (hinv k (by omega))).1
         cases t with
         | nil=>simp[badC,ht]at hbk
         | cons q t=>exact .inr ⟨k,q,t,rfl,ht⟩
       rcases hpre with rfl|⟨k,q,t,rfl,ht⟩
       ·have hbd:badC L 0=false:=by simp[badC,hsi,hv]
        have hall:∀ k,k<0+1→(badC L k||badM L k)=false:=fun k hk=>by
         obtain rfl:k=0:=by omega
         rw[hbd];rfl
        simp +contextual (disch:=omega) only[Tryz.f76,dd76,go_sem,simprocAttr,mu76,↓wrap_up,↓wrap_down,↓wrap_pred,↓wrap_sub_nat,hsi',h119,h135,hp0,hw]
        refine⟨by unfold dOk;kernel_rfl,?_⟩
        refine W_count (M:=(mskOf (pol1.mask 76) (pol1.gc 76) (pol1.acts 76) 0 13)) rfl 0 (fun j=>(⟨135,[(8,I j),(5,.int .i64 0),(4,I (m+z)),(3,I T),(0,.sl false (L.map setAV9))],[]⟩:St)) (fun j=>True) (fun j hj=>absurd hj (by omega)) ?_ trivial _ rfl
        intro _
        simp +contextual (disch:=omega) only[Tryz.f76,dd76,go_sem,simprocAttr,mu76,↓wrap_up,↓wrap_down,↓wrap_pred,↓wrap_sub_nat]
        exact⟨hall,rfl⟩
       ·have ht':(L.map setAV9)[k]?=some (setAV9 (q::t)):=by simp[ht]
        have hq0:((q::t).map spanAV)[0]?=some (spanAV q):=rfl
        have hbe:badC L (k+1)=decide (p.1≤q.1):=by
         simp only[badC,hsi,ht,hv,headLo]
         simp<;>rfl
        by_cases ho:p.1≤q.1
        ·rw[bad (by rw[hbe,decide_eq_true ho])]
         simp +contextual (disch:=omega) only[Tryz.f76,dd76,go_sem,simprocAttr,mu76,↓wrap_up,↓wrap_down,↓wrap_pred,↓wrap_sub_nat,hsi',ht',h119,h135,hp0,hq0,hw,ho]
         exact⟨by unfold dOk;kernel_rfl,fzEq rfl rfl⟩
        ·have hbd:badC L (k+1)=false:=by rw[hbe,decide_eq_false ho]
         simp +contextual (disch:=omega) only[Tryz.f76,dd76,go_sem,simprocAttr,mu76,↓wrap_up,↓wrap_down,↓wrap_pred,↓wrap_sub_nat,hsi',ht',h119,h135,hp0,hq0,hw,ho]
         refine⟨by unfold dOk;kernel_rfl,?_⟩
         refine W_count (M:=(mskOf (pol1.mask 76) (pol1.gc 76) (pol1.acts 76) 0 13)) rfl (k+1) (fun j=>(⟨135,[(8,I j),(5,.int .i64 ((k+1:Nat):Int)),(4,I (m+z)),(3,I T),(0,.sl false (L.map setAV9))],[]⟩:St)) (fun j=>∀ u,u<j→meetS (p::s) (L[u]?.getD [])=false) ?_ ?_ (fun u h=>by omega) _ rfl
         ·intro j hj hjm
          obtain⟨u,hu⟩:∃ u,L[j]?=some u:=⟨_,List.getElem?_eq_getElem (by omega)⟩
          have hu':(L.map setAV9)[j]?=some (setAV9 u):=by simp[hu]
          have hul:=hsl u (List.mem_of_getElem? hu)
          have hps:((p::s).map spanAV).length=(p::s).length:=by simp
          have badm:meetS (p::s) u=true→partedA L=false:=fun h=>parted_bad hi (by
           rw[Bool.or_eq_true];right
           unfold badM
           rw[List.any_eq_true]
           exact⟨j,List.mem_range.2 hj,by rw[hsi,hu];exact h⟩)
          generalize p::s=S at *
          simp +contextual (disch:=omega) only[Tryz.f76,dd76,go_sem,simprocAttr,mu76,↓wrap_up,↓wrap_down,↓wrap_pred,↓wrap_sub_nat]
          refine W_count (M:=(mskOf (pol1.mask 76) (pol1.gc 76) (pol1.acts 76) 0 16)) rfl S.length (fun a=>(⟨135,[(9,I a),(8,I j),(5,.int .i64 ((k+1:Nat):Int)),(4,I (m+z)),(3,I T),(0,.sl false (L.map setAV9))],[]⟩:St)) (fun a=>∀ a',a'<a→∀ p,S[a']?=some p→∀ b,b<u.length→∀ q,u[b]?=some q→¬ (p.1≤q.2∧q.1≤p.2)) ?_ ?_ (fun a' h=>by omega) _ rfl
          ·intro a ha ham
           obtain⟨x,hx⟩:∃ x,S[a]?=some x:=⟨_,List.getElem?_eq_getElem ha⟩
           have hx':(S.map spanAV)[a]?=some (spanAV x):=by simp[hx]
           simp +contextual (disch:=omega) only[Tryz.f76,dd76,go_sem,simprocAttr,mu76,↓wrap_up,↓wrap_down,↓wrap_pred,↓wrap_sub_nat,hsi']
           refine W_count (M:=(mskOf (pol1.mask 76) (pol1.gc 76) (pol1.acts 76) 0 19)) rfl u.length (fun b=>(⟨135,[(10,I b),(9,I a),(8,I j),(5,.int .i64 ((k+1:Nat):Int)),(4,I (m+z)),(3,I T),(0,.sl false (L.map setAV9))],[]⟩:St)) (fun b=>∀ b',b'<b→∀ q,u[b']?=some q→¬ (x.1≤q.2∧q.1≤x.2)) ?_ ?_ (fun b' h=>by omega) _ rfl
           ·intro b hb hbm
            obtain⟨y,hy⟩:∃ y,u[b]?=some y:=⟨_,List.getElem?_eq_getElem hb⟩
            have hy':(u.map spanAV)[b]?=some (spanAV y):=by simp[hy]
            by_cases c1:x.1≤y.2
            ·by_cases c2:y.1≤x.2
             ·rw[badm (meetS_at hx hy ⟨c1,c2⟩)]
              simp +contextual (disch:=omega) only[Tryz.f76,dd76,go_sem,simprocAttr,mu76,↓wrap_up,↓wrap_down,↓wrap_pred,↓wrap_sub_nat,hsi',hu',hx',hy',c1,c2]
              exact⟨by unfold dOk;kernel_rfl,fzEq rfl rfl⟩
             ·simp +contextual (disch:=omega) only[Tryz.f76,dd76,go_sem,simprocAttr,mu76,↓wrap_up,↓wrap_down,↓wrap_pred,↓wrap_sub_nat,hsi',hu',hx',hy',c1,c2]
              refine⟨by unfold dOk;kernel_rfl,fun b' hb' q hq=>?_,rfl⟩
              rcases Nat.lt_or_ge b' b with h1|h1
              ·exact hbm b' h1 q hq
              ·obtain rfl:b' = b:=by omega
               rw[hy]at hq;cases hq
               omega
            ·simp +contextual (disch:=omega) only[Tryz.f76,dd76,go_sem,simprocAttr,mu76,↓wrap_up,↓wrap_down,↓wrap_pred,↓wrap_sub_nat,hsi',hu',hx',hy',c1]
             refine⟨by unfold dOk;kernel_rfl,fun b' hb' q hq=>?_,rfl⟩
             rcases Nat.lt_or_ge b' b with h1|h1
             ·exact hbm b' h1 q hq
             ·obtain rfl:b' = b:=by omega
              rw[hy]at hq;cases hq
              omega
           ·intro hbm
            simp +contextual (disch:=omega) only[Tryz.f76,dd76,go_sem,simprocAttr,mu76,↓wrap_up,↓wrap_down,↓wrap_pred,↓wrap_sub_nat,hu']
            refine⟨fun a' ha' p' hp' b hb q hq=>?_,rfl⟩
            rcases Nat.lt_or_ge a' a with h1|h1
            ·exact ham a' h1 p' hp' b hb q hq
            ·obtain rfl:a' = a:=by omega
             rw[hx]at hp';cases hp'
             exact hbm b hb q hq
          ·intro ham
           simp +contextual (disch:=omega) only[Tryz.f76,dd76,go_sem,simprocAttr,mu76,↓wrap_up,↓wrap_down,↓wrap_pred,↓wrap_sub_nat,hsi']
           refine⟨fun w hw'=>?_,rfl⟩
           rcases Nat.lt_or_ge w j with h1|h1
           ·exact hjm w h1
           ·obtain rfl:w=j:=by omega
            rw[hu,Option.getD_some]
            exact meetS_none ham
         ·intro hjm
          have hall:∀ u,u<k+1+1→(badC L u||badM L u)=false:=fun u hu=>by
           by_cases e:u<k+1
           ·exact hinv u e
           ·obtain rfl:u=k+1:=by omega
            rw[hbd,Bool.false_or]
            unfold badM
            rw[List.any_eq_false]
            intro w hw2
            rw[hsi,Option.getD_some,hjm w (List.mem_range.1 hw2)];simp
          simp +contextual (disch:=omega) only[Tryz.f76,dd76,go_sem,simprocAttr,mu76,↓wrap_up,↓wrap_down,↓wrap_pred,↓wrap_sub_nat]
          exact⟨hall,rfl⟩
      ·rw[bad (by simp[badC,hsi,hv])]
       simp +contextual (disch:=omega) only[Tryz.f76,dd76,go_sem,simprocAttr,mu76,↓wrap_up,↓wrap_down,↓wrap_pred,↓wrap_sub_nat,hsi',h119,hv]
       exact⟨by unfold dOk;kernel_rfl,fzEq rfl rfl⟩
   ·rintro⟨hinv,hb1,hb2⟩
    rw[List.take_length]at *
    rw[hg hinv]
    simp +contextual (disch:=omega) only[Tryz.f76,dd76,go_sem,simprocAttr,mu76,↓wrap_up,↓wrap_down,↓wrap_pred,↓wrap_sub_nat]
    exact fzEq rfl rfl
 ·have hbad:partedA L=false:=by
   have h2:(decide (topZ L.flatten=255)||decide (topZ L.flatten=1114111))=false:=by simpa using ht
   simp[partedA,h2]
  rw[hbad]
  obtain⟨T,hT⟩:∃ T,T=topZ L.flatten:=⟨_,rfl⟩
  rw[← hT]at h134 ht
  have t1:T≠255:=fun e=>ht (.inl e)
  have t2:T≠1114111:=fun e=>ht (.inr e)
  simp +contextual (disch:=omega) only[Tryz.f76,dd76,go_sem,simprocAttr,mu76,↓wrap_up,↓wrap_down,↓wrap_pred,↓wrap_sub_nat,h134,t1,t2]
  exact fzEq rfl rfl
end
section
attribute [local go_sem] retE_norm retE_ret bndO bnd evEq eqCells not_false_eq_true not_true_eq_false toList_some Array.size_empty List.length_append List.map_append tySzE List.head?_drop Nat.mul_one sameAt_zero sameAt_two sameAt_three sameAt_four sameAt_five room_ok
open Go.Proofs Go.RowKit Go.IntWalk
set_option maxRecDepth 100000
set_option maxHeartbeats 4000000
theorem divides_eq (L:Cls):dividesA L=partedA L:=by
 cases h:ordC L with
 | false=>rw[parted_ord h,divides_no h]
 | true=>
   have hp:((sortP (placesL 0 L)).map spanOf).Perm L.flatten:=by
    refine((sortP_perm _).map spanOf).trans ?_
    have:∀(L:Cls) (i:Nat),(placesL i L).map spanOf=L.flatten:=by
     intro L
     induction L with
     | nil=>intro i;rfl
     | cons s L ih=>
       intro i
       rw[placesL,List.map_append,ih,List.flatten_cons]
       congr 1
       simp[plcs,Function.comp_def]
    rw[this]
   have hs:((sortP (placesL 0 L)).map spanOf).Pairwise fun p q=>p.1≤q.1:=by
    rw[List.pairwise_map]
    exact sortP_sorted _
   rw[← divides_parted h hp hs]
   simp[dividesA,h]
theorem f32 (a:AutoL) (hb:AutoB a) (H:List MB):call Tryz.prog pol1 32 [autoAV a] H=some (I (validW (partedA a.cl) a),H):=by
 have hpl:=plain_auto a
 have h76:=f76 a.cl hb.cl (fun s hs=>by have:=le_sum_mem (List.mem_map.2 ⟨s,hs,rfl⟩:s.length∈a.cl.map List.length);have:=hb.sum;omega)
 have b1:=hb.cl
 have b2:=hb.nx
 have b3:=hb.ac
 have hrow:=hb.row
 obtain⟨cl,nx,ac⟩:=a
 simp only at h76 b1 b2 b3 hrow
 unfold validW
 simp only
 generalize partedA cl=d at *
 refine call_run Tryz.func32 rfl rfl rfl rfl rfl rfl (fun _=>rfl) (by simp only[AV.plainL,hpl];rfl) (by simp[AV.plain]) ?_ H
 by_cases c1:1024<cl.length∨1024<nx.length∨1024<ac.length
 ·rw[if_pos c1]
  simp +contextual (disch:=omega) only[Tryz.f32,dd32,go_sem,simprocAttr,mu32,↓wrap_up,↓wrap_down,↓wrap_pred,↓wrap_sub_nat]
  exact⟨fun _=>fzEq rfl rfl,fun _=>⟨fun _=>fzEq rfl rfl,fun _=>fzEq rfl rfl⟩⟩
 ·rw[if_neg c1]
  by_cases c2:nx.length=0∨ac.length≠nx.length∨d=false
  ·rw[if_pos c2]
   cases d with
   | false=>
     simp +contextual (disch:=omega) only[Tryz.f32,dd32,go_sem,simprocAttr,mu32,↓wrap_up,↓wrap_down,↓wrap_pred,↓wrap_sub_nat,h76]
     exact fzEq rfl rfl
   | true=>
     have c3:nx.length=0∨ac.length≠nx.length:=by simpa using c2
     by_cases c4:nx.length=0
     ·have c5:(nx.length:Int)=0:=by omega
      simp +contextual (disch:=omega) only[Tryz.f32,dd32,go_sem,simprocAttr,mu32,↓wrap_up,↓wrap_down,↓wrap_pred,↓wrap_sub_nat,h76,c5]
      exact fzEq rfl rfl
     ·have c6:¬ (ac.length:Int)=(nx.length:Int):=by omega
      simp +contextual (disch:=omega) only[Tryz.f32,dd32,go_sem,simprocAttr,mu32,↓wrap_up,↓wrap_down,↓wrap_pred,↓wrap_sub_nat,h76,c6]
      exact fzEq rfl rfl
  ·rw[if_neg c2]
   have hd:d=true:=by cases d<;>simp_all
   subst hd
   have c4:ac.length=nx.length∧nx.length≠0:=by
    constructor
    ·by_cases e:ac.length=nx.length
     ·exact e
     ·exact absurd (.inr (.inl e)) c2
    ·exact fun e=>c2 (.inl e)
   simp +contextual (disch:=omega) only[Tryz.f32,dd32,go_sem,simprocAttr,mu32,↓wrap_up,↓wrap_down,↓wrap_pred,↓wrap_sub_nat,h76]
   refine W_count (M:=(mskOf (pol1.mask 32) (pol1.gc 32) (pol1.acts 32) 0 8)) rfl nx.length (fun i=>(⟨86,[(5,I i),(3,I nx.length),(1,.rf 0 1 0 0)],[.row 3 [autoAV ⟨cl,nx,ac⟩] 0]⟩:St)) (fun i=>∀ k,k<i→∀ x,nx[k]?=some x→okRow nx.length cl.length x=true) ?_ ?_ (fun k h=>by omega) _ rfl
   ·intro i hi hinv
    obtain⟨r,hr⟩:∃ r,nx[i]?=some r:=⟨_,List.getElem?_eq_getElem hi⟩
    have hr':(nx.map rowAV)[i]?=some (rowAV r):=by simp[hr]
    have hrl:=hrow r (List.mem_of_getElem? hr)
    have bad:okRow nx.length cl.length r=false→(if nx.all (okRow nx.length cl.length)=true then(0:Int) else 1)=1:=fun h=>by
     rw[all_bad hr h];rfl
    by_cases c5:r.length=cl.length
    ·have c6:(r.length:Int)=(cl.length:Int):=by omega
     simp +contextual (disch:=omega) only[Tryz.f32,dd32,go_sem,simprocAttr,mu32,↓wrap_up,↓wrap_down,↓wrap_pred,↓wrap_sub_nat,hr',c6]
     refine⟨by unfold dOk;kernel_rfl,?_⟩
     refine W_count (M:=(mskOf (pol1.mask 32) (pol1.gc 32) (pol1.acts 32) 0 13)) rfl r.length (fun k=>(⟨86,[(6,I k),(5,I i),(3,I nx.length),(1,.rf 0 1 0 0)],[.row 3 [autoAV ⟨cl,nx,ac⟩] 0]⟩:St)) (fun k=>∀ j,j<k→∀ x,r[j]?=some x→okSt nx.length x=true) ?_ ?_ (fun k h=>by omega) _ rfl
     ·intro k hk hk2
      obtain⟨t,ht⟩:∃ t,r[k]?=some t:=⟨_,List.getElem?_eq_getElem hk⟩
      have ht':(r.map I)[k]?=some (I t):=by simp[ht]
      have badt:okSt nx.length t=false→(if nx.all (okRow nx.length cl.length)=true then(0:Int) else 1)=1:=fun h=>bad (by simp[okRow,all_bad ht h])
      by_cases e1:t<0
      ·rw[badt (by simp[okSt];omega)]
       simp +contextual (disch:=omega) only[Tryz.f32,dd32,go_sem,simprocAttr,mu32,↓wrap_up,↓wrap_down,↓wrap_pred,↓wrap_sub_nat,hr',ht',e1]
       exact fzEq rfl rfl
      ·by_cases e2:t<(nx.length:Int)
       ·simp +contextual (disch:=omega) only[Tryz.f32,dd32,go_sem,simprocAttr,mu32,↓wrap_up,↓wrap_down,↓wrap_pred,↓wrap_sub_nat,hr',ht',e1,e2]
        refine⟨fun j hj x hx=>?_,rfl⟩
        rcases Nat.lt_or_ge j k with h1|h1
        ·exact hk2 j h1 x hx
        ·obtain rfl:j=k:=by omega
         rw[ht]at hx;cases hx
         simp[okSt];omega
       ·rw[badt (by simp[okSt];omega)]
        simp +contextual (disch:=omega) only[Tryz.f32,dd32,go_sem,simprocAttr,mu32,↓wrap_up,↓wrap_down,↓wrap_pred,↓wrap_sub_nat,hr',ht',e1,e2]
        exact fzEq rfl rfl
     ·intro hk2
      have ok1:okRow nx.length cl.length r=true:=by simp only[okRow,c5,all_of hk2];rfl
      simp +contextual (disch:=omega) only[Tryz.f32,dd32,go_sem,simprocAttr,mu32,↓wrap_up,↓wrap_down,↓wrap_pred,↓wrap_sub_nat,hr']
      refine⟨fun j hj x hx=>?_,rfl⟩
      rcases Nat.lt_or_ge j i with h1|h1
      ·exact hinv j h1 x hx
      ·obtain rfl:j=i:=by omega
       rw[hr]at hx;cases hx
       exact ok1
    ·have c6:¬ (r.length:Int)=(cl.length:Int):=by omega
     rw[bad (by simp[okRow,c5])]
     simp +contextual (disch:=omega) only[Tryz.f32,dd32,go_sem,simprocAttr,mu32,↓wrap_up,↓wrap_down,↓wrap_pred,↓wrap_sub_nat,hr',c6]
     exact⟨by unfold dOk;kernel_rfl,fzEq rfl rfl⟩
   ·intro hinv
    have:(if nx.all (okRow nx.length cl.length)=true then(0:Int) else 1)=0:=by
     rw[all_of hinv];rfl
    rw[this]
    simp +contextual (disch:=omega) only[Tryz.f32,dd32,go_sem,simprocAttr,mu32,↓wrap_up,↓wrap_down,↓wrap_pred,↓wrap_sub_nat]
    exact fzEq rfl rfl
end
structure DA where
 n:Nat
 m:Nat
 nx:Nat→Nat→Nat
 ac:Nat→Bool
 cl:Int→Nat
def DA.run (A:DA):Nat→List Int→Nat
 | s,[]=>s
 | s,x::t=>A.run (A.nx s (A.cl x)) t
theorem DA.run_app (A:DA):∀(t u:List Int) (s:Nat),A.run s (t++u)=A.run (A.run s t) u
 | [],_,_=>rfl
 | x::t,u,s=>DA.run_app A t u _
abbrev Sy (top x:Int):Prop:=0≤x∧x≤top
abbrev Tx (top:Int) (t:List Int):Prop:=∀ x∈t,Sy top x
structure DA.Ok (A:DA) (top:Int):Prop where
 pos:0<A.n
 lt:∀ s c,s<A.n→c<A.m→A.nx s c<A.n
 cllt:∀ x,Sy top x→A.cl x<A.m
 surj:∀ c,c<A.m→∃ x,Sy top x∧A.cl x=c
theorem DA.Ok.run_lt {A:DA}{top:Int} (h:A.Ok top):∀(t:List Int) (s:Nat),Tx top t→s<A.n→A.run s t<A.n
 | [],s,_,hs=>hs
 | x::t,s,ht,hs=>h.run_lt t _ (fun y hy=>ht y (by simp[hy])) (h.lt _ _ hs (h.cllt x (ht x (by simp))))
def DA.Same (A B:DA) (top:Int):Prop:=∀ t,Tx top t→A.ac (A.run 0 t)=B.ac (B.run 0 t)
def DA.Dist (A:DA) (top:Int):Prop:=∀ s t,s<A.n→t<A.n→s≠t→∃ w,Tx top w∧A.ac (A.run s w)≠A.ac (A.run t w)
def Before (s' c' s c:Nat):Prop:=s'<s∨s' = s∧c'<c
structure DA.Min (A:DA) (top:Int):Prop where
 ok:A.Ok top
 reach:∀ s,0<s→s<A.n→∃ s' c',s'<s∧c'<A.m∧A.nx s' c' = s
 grow:∀ s c,s<A.n→c<A.m→∀ u,0<u→u<A.nx s c→∃ s' c',s'<A.n∧c'<A.m∧Before s' c' s c∧A.nx s' c' = u
 dist:A.Dist top
 cdist:∀ c d,c<A.m→d<A.m→c≠d→∃ s,s<A.n∧A.nx s c≠A.nx s d
 order:∀ c,c<A.m→∃ x,Sy top x∧A.cl x=c∧∀ y,Sy top y→c<A.cl y→x<y
theorem tx_app {top:Int}{t u:List Int} (h:Tx top t) (h2:Tx top u):Tx top (t++u):=fun x hx=>by
 rcases List.mem_append.1 hx with h3|h3
 ·exact h x h3
 ·exact h2 x h3
theorem tx_nil {top:Int}:Tx top []:=fun x hx=>by cases hx
theorem tx_one {top x:Int} (h:Sy top x):Tx top [x]:=fun y hy=>by simp at hy;subst hy;exact h
theorem DA.Min.text {A:DA}{top:Int} (h:A.Min top):∀ k s,s<k→s<A.n→∃ u,Tx top u∧A.run 0 u=s
 | 0,s,h1,_=>absurd h1 (by omega)
 | k+1,s,h1,h2=>by
   rcases Nat.eq_zero_or_pos s with h0|h0
   ·subst h0;exact⟨[],tx_nil,rfl⟩
   ·obtain⟨s',c',a1,a2,a3⟩:=h.reach s h0 h2
    obtain⟨u,b1,b2⟩:=h.text k s' (by omega) (by omega)
    obtain⟨x,d1,d2⟩:=h.ok.surj c' a2
    refine⟨u++[x],tx_app b1 (tx_one d1),?_⟩
    rw[DA.run_app,b2]
    simp only[DA.run,d2,a3]
def Rel (A B:DA) (top:Int) (s t:Nat):Prop:=∃ u,Tx top u∧A.run 0 u=s∧B.run 0 u=t
theorem Rel.symm {A B:DA}{top:Int}{s t:Nat} (h:Rel A B top s t):Rel B A top t s:=by
 obtain⟨u,a,b,c⟩:=h;exact⟨u,a,c,b⟩
theorem Rel.fn {A B:DA}{top:Int} (hs:A.Same B top) (hB:B.Ok top) (hd:B.Dist top) {s t t':Nat} (h:Rel A B top s t) (h':Rel A B top s t'):t=t':=by
 obtain⟨u,a1,a2,a3⟩:=h
 obtain⟨v,b1,b2,b3⟩:=h'
 by_cases e:t=t'
 ·exact e
 ·exfalso
  have ht:t<B.n:=by rw[← a3];exact hB.run_lt u 0 a1 hB.pos
  have ht':t'<B.n:=by rw[← b3];exact hB.run_lt v 0 b1 hB.pos
  obtain⟨w,c1,c2⟩:=hd t t' ht ht' e
  have e1:=hs (u++w) (tx_app a1 c1)
  have e2:=hs (v++w) (tx_app b1 c1)
  rw[DA.run_app,DA.run_app,a2,a3]at e1
  rw[DA.run_app,DA.run_app,b2,b3]at e2
  exact c2 (e1.symm.trans e2)
theorem Rel.step {A B:DA}{top:Int}{s t:Nat} (h:Rel A B top s t) {x:Int} (hx:Sy top x):Rel A B top (A.nx s (A.cl x)) (B.nx t (B.cl x)):=by
 obtain⟨u,a1,a2,a3⟩:=h
 refine⟨u++[x],tx_app a1 (tx_one hx),?_,?_⟩
 ·rw[DA.run_app,a2];rfl
 ·rw[DA.run_app,a3];rfl
theorem DA.Same.symm {A B:DA}{top:Int} (h:A.Same B top):B.Same A top:=fun t ht=>(h t ht).symm
theorem DA.Same.trans {A B C:DA}{top:Int} (h:A.Same B top) (g:B.Same C top):A.Same C top:=fun t ht=>(h t ht).trans (g t ht)
end Go.Ev
namespace Go.Ev
attribute [local go_sem] evAppend
section
attribute [local go_sem] retE_norm retE_ret bndO bnd evEq eqCells not_false_eq_true not_true_eq_false toList_some Array.size_empty List.length_append List.map_append
open Go.Proofs Go.RowKit Go.IntWalk
set_option maxRecDepth 100000
set_option maxHeartbeats 4000000
def hasSpan (l:List (Int×Int)) (x:Int):Bool:=l.any fun p=>decide (p.1≤x)&&decide (x≤p.2)
end
def clIx (cl:Cls) (x:Int):Nat:=cl.findIdx fun s=>hasSpan s x
theorem hasSpan_iff {s:List (Int×Int)}{x:Int}:hasSpan s x=true↔∃ p∈s,p.1≤x∧x≤p.2:=by
 unfold hasSpan
 rw[List.any_eq_true]
 constructor
 ·rintro⟨p,h1,h2⟩
  exact⟨p,h1,by simpa using h2⟩
 ·rintro⟨p,h1,h2⟩
  exact⟨p,h1,by simpa using h2⟩
theorem mem_placesL:∀ {L:Cls}{i:Nat}{p:Pl},p∈placesL i L↔∃(k:Nat) (s:List (Int×Int)),L[k]?=some s∧spanOf p∈s∧p.2.2=((i+k:Nat):Int)
 | [],i,p=>by simp[placesL]
 | t::L,i,p=>by
   rw[placesL,List.mem_append,mem_placesL (L:=L)]
   constructor
   ·rintro(h|⟨k,s,h1,h2,h3⟩)
    ·obtain⟨q,hq,rfl⟩:=List.mem_map.1 h
     exact⟨0,t,rfl,hq,rfl⟩
    ·exact⟨k+1,s,by simpa using h1,h2,by rw[h3];congr 1;omega⟩
   ·rintro⟨k,s,h1,h2,h3⟩
    rcases k with _|k
    ·simp only[List.getElem?_cons_zero,Option.some.injEq]at h1
     subst h1
     exact .inl (List.mem_map.2 ⟨spanOf p,h2,by rw[show ((i:Nat):Int)=p.2.2 by rw[h3];rfl]⟩)
    ·exact .inr ⟨k,s,by simpa using h1,h2,by rw[h3];congr 1;omega⟩
structure DivOk (cl:Cls) (top:Int):Prop where
 top_:top=255∨top=1114111
 val:∀ p∈(sortP (placesL 0 cl)).map spanOf,0≤p.1∧p.1≤p.2
 chain:chainA ((sortP (placesL 0 cl)).map spanOf) 0=some (top+1)
 set:∀ s∈cl,refSpans s=0∧s≠[]
 ord:∀(i:Nat) (s t:List (Int×Int)),cl[i]?=some s→cl[i+1]?=some t→headLo s<headLo t
theorem topZ_flat {L:Cls}:topZ ((sortP (placesL 0 L)).map spanOf)=topZ L.flatten:=by
 have:∀(L:Cls) (i:Nat),(placesL i L).map spanOf=L.flatten:=by
  intro L
  induction L with
  | nil=>intro i;rfl
  | cons s L ih=>
    intro i
    rw[placesL,List.map_append,ih,List.flatten_cons]
    congr 1
    simp[plcs,Function.comp_def]
 rw[← this L 0]
 exact topZ_perm ((sortP_perm _).map spanOf)
theorem div_ok {cl:Cls} (h:dividesA cl=true):DivOk cl (topZ cl.flatten):=by
 simp only[dividesA,Bool.and_eq_true]at h
 obtain⟨h1,h2⟩:=h
 have hset:=ordC_sets h1
 have hv:∀ p∈(sortP (placesL 0 cl)).map spanOf,0≤p.1∧p.1≤p.2:=fun p hp=>by
  obtain⟨q,hq,rfl⟩:=List.mem_map.1 hp
  obtain⟨s,hs1,hs2⟩:=mem_places ((sortP_perm _).mem_iff.1 hq)
  have:=refSpans_mem (hset s hs1).1 _ hs2
  exact⟨this.1,this.2.1⟩
 have hord:∀(i:Nat) (s t:List (Int×Int)),cl[i]?=some s→cl[i+1]?=some t→headLo s<headLo t:=fun i s t hs ht=>by
  have hb:=ordC_get h1 (List.getElem?_eq_some_iff.1 ht).1
  simp only[badC,ht,hs,Bool.or_eq_false_iff,decide_eq_false_iff_not]at hb
  omega
 unfold endC at h2
 cases hc:chainA ((sortP (placesL 0 cl)).map spanOf) 0 with
 | none=>rw[hc]at h2;cases h2
 | some e=>
   rw[hc]at h2
   simp only[Bool.or_eq_true,decide_eq_true_eq]at h2
   have hne:(sortP (placesL 0 cl)).map spanOf≠[]:=by
    intro e0
    rw[e0]at hc
    simp only[chainA,Option.some.injEq]at hc
    omega
   have ht:=chain_top hc (fun p hp=>(hv p hp).2) hne
   rw[topZ_flat]at ht
   have he:topZ cl.flatten+1=e:=by rw[ht];omega
   refine⟨by omega,hv,by rw[he];exact hc,hset,hord⟩
section
variable {cl:Cls}{top:Int}
theorem DivOk.place (h:DivOk cl top) {i:Nat}{s:List (Int×Int)} (hi:cl[i]?=some s) {x:Int} (hx:hasSpan s x=true) :
  ∃(k:Nat) (p:Pl),(sortP (placesL 0 cl))[k]?=some p∧p.1≤x∧x≤p.2.1∧p.2.2=(i:Int):=by
 obtain⟨q,hq,h1⟩:=hasSpan_iff.1 hx
 have hm:((q.1,q.2,(i:Int)):Pl)∈sortP (placesL 0 cl):=(sortP_perm _).mem_iff.2 (mem_placesL.2 ⟨i,s,hi,hq,by rw[Nat.zero_add]⟩)
 obtain⟨k,hk,e⟩:=List.getElem_of_mem hm
 exact⟨k,_,by rw[List.getElem?_eq_getElem hk,e],h1.1,h1.2,rfl⟩
theorem DivOk.uniqK (h:DivOk cl top) {k l:Nat}{p q:Pl} (hp:(sortP (placesL 0 cl))[k]?=some p) (hq:(sortP (placesL 0 cl))[l]?=some q) {x:Int} (h1:p.1≤x∧x≤p.2.1) (h2:q.1≤x∧x≤q.2.1):k=l:=by
 have ho:=chain_order h.chain (fun p hp=>(h.val p hp).2)
 have hp':((sortP (placesL 0 cl)).map spanOf)[k]?=some (spanOf p):=by simp[hp]
 have hq':((sortP (placesL 0 cl)).map spanOf)[l]?=some (spanOf q):=by simp[hq]
 obtain⟨hk,ek⟩:=List.getElem?_eq_some_iff.1 hp'
 obtain⟨hl,el⟩:=List.getElem?_eq_some_iff.1 hq'
 rcases Nat.lt_trichotomy k l with g|g|g
 ·have:=(order_hi ho (fun p hp=>(h.val p hp).2) g hl).1
  rw[ek,el]at this
  simp only[spanOf]at this;omega
 ·exact g
 ·have:=(order_hi ho (fun p hp=>(h.val p hp).2) g hk).1
  rw[ek,el]at this
  simp only[spanOf]at this;omega
theorem DivOk.uniq (h:DivOk cl top) {i j:Nat}{s t:List (Int×Int)} (hi:cl[i]?=some s) (hj:cl[j]?=some t) {x:Int} (h1:hasSpan s x=true) (h2:hasSpan t x=true):i=j:=by
 obtain⟨k,p,a1,a2,a3,a4⟩:=h.place hi h1
 obtain⟨l,q,b1,b2,b3,b4⟩:=h.place hj h2
 obtain rfl:=h.uniqK a1 b1 ⟨a2,a3⟩ ⟨b2,b3⟩
 rw[a1]at b1;cases b1
 omega
theorem DivOk.has (h:DivOk cl top) {x:Int} (h0:0≤x) (h1:x≤top):∃(i:Nat) (s:List (Int×Int)),cl[i]?=some s∧hasSpan s x=true:=by
 obtain⟨p,hp,h2⟩:=chain_has h.chain x h0 (by omega)
 obtain⟨q,hq,rfl⟩:=List.mem_map.1 hp
 obtain⟨i,s,a1,a2,_⟩:=mem_placesL.1 ((sortP_perm _).mem_iff.1 hq)
 exact⟨i,s,a1,hasSpan_iff.2 ⟨_,a2,h2⟩⟩
theorem DivOk.clIx_eq (h:DivOk cl top) {i:Nat}{s:List (Int×Int)} (hi:cl[i]?=some s) {x:Int} (hx:hasSpan s x=true):clIx cl x=i:=by
 obtain⟨hil,ei⟩:=List.getElem?_eq_some_iff.1 hi
 have hlt:clIx cl x<cl.length:=List.findIdx_lt_length_of_exists ⟨s,List.mem_of_getElem? hi,hx⟩
 have h2:=List.findIdx_getElem (p:=fun s=>hasSpan s x) (xs:=cl) (w:=hlt)
 exact h.uniq (List.getElem?_eq_getElem hlt) hi h2 hx
theorem DivOk.clIx_lt (h:DivOk cl top) {x:Int} (h0:0≤x) (h1:x≤top):clIx cl x<cl.length∧hasSpan (cl[clIx cl x]?.getD []) x=true:=by
 obtain⟨i,s,a1,a2⟩:=h.has h0 h1
 rw[h.clIx_eq a1 a2]
 exact⟨(List.getElem?_eq_some_iff.1 a1).1,by rw[a1];exact a2⟩
theorem DivOk.search (h:DivOk cl top) {x:Int} (h0:0≤x) (h1:x≤top) {k:Nat} (hk:k≤(sortP (placesL 0 cl)).length)
  (ha:∀(j:Nat) (p:Pl),j<k→(sortP (placesL 0 cl))[j]?=some p→p.2.1<x) (hb:∀(j:Nat) (p:Pl),k≤j→(sortP (placesL 0 cl))[j]?=some p→x≤p.2.1) :
  ∃ p:Pl,(sortP (placesL 0 cl))[k]?=some p∧p.2.2=(clIx cl x:Int):=by
 obtain⟨i,s,a1,a2⟩:=h.has h0 h1
 obtain⟨l,q,b1,b2,b3,b4⟩:=h.place a1 a2
 have hkl:k≤l:=by
  rcases Nat.lt_or_ge l k with g|g
  ·have:=ha l q g b1;omega
  ·exact g
 have hll:=(List.getElem?_eq_some_iff.1 b1).1
 obtain⟨p,hp⟩:∃ p,(sortP (placesL 0 cl))[k]?=some p:=⟨_,List.getElem?_eq_getElem (by omega)⟩
 have hx:=hb k p (Nat.le_refl _) hp
 have hkl2:k=l:=by
  rcases Nat.lt_or_ge k l with g|g
  ·exfalso
   have ho:=chain_order h.chain (fun p hp=>(h.val p hp).2)
   have hp':((sortP (placesL 0 cl)).map spanOf)[k]?=some (spanOf p):=by simp[hp]
   have hq':((sortP (placesL 0 cl)).map spanOf)[l]?=some (spanOf q):=by simp[b1]
   obtain⟨hk',ek⟩:=List.getElem?_eq_some_iff.1 hp'
   obtain⟨hl',el⟩:=List.getElem?_eq_some_iff.1 hq'
   have:=(order_hi ho (fun p hp=>(h.val p hp).2) g hl').1
   rw[ek,el]at this
   simp only[spanOf]at this;omega
  ·omega
 subst hkl2
 rw[hp]at b1;cases b1
 exact⟨_,hp,by rw[b4,h.clIx_eq a1 a2]⟩
theorem hasSpan_head {s:List (Int×Int)} (h:refSpans s=0) (hne:s≠[]):hasSpan s (headLo s)=true:=by
 cases s with
 | nil=>exact absurd rfl hne
 | cons p s=>
   have:=refSpans_mem h p (by simp)
   exact hasSpan_iff.2 ⟨p,by simp,by simp[headLo],by simp only[headLo,List.head?_cons,Option.map_some,Option.getD_some];omega⟩
theorem DivOk.head (h:DivOk cl top) {i:Nat}{s:List (Int×Int)} (hi:cl[i]?=some s):0≤headLo s∧headLo s≤top∧clIx cl (headLo s)=i:=by
 have hs:=h.set s (List.mem_of_getElem? hi)
 have hh:=hasSpan_head hs.1 hs.2
 obtain⟨k,p,a1,a2,a3,_⟩:=h.place hi hh
 have hm:spanOf p∈(sortP (placesL 0 cl)).map spanOf:=List.mem_map.2 ⟨p,List.mem_of_getElem? a1,rfl⟩
 have h1:=h.val _ hm
 have h2:=(chain_ge h.chain (fun p hp=>(h.val p hp).2)).2.2 _ hm
 simp only[spanOf]at h1 h2
 exact⟨by omega,by omega,h.clIx_eq hi hh⟩
end
def autoDA (a:AutoL):DA:=⟨a.nx.length,a.cl.length,fun s c=>stepC a.nx s c,fun s=>a.ac[s]?.getD false,clIx a.cl⟩
theorem auto_ok {a:AutoL} (hg:GoodA a) {top:Int} (hd:DivOk a.cl top):(autoDA a).Ok top where
 pos:=hg.pos
 lt:=fun s c hs hc=>stepC_lt hg.rows hs hc
 cllt:=fun x hx=>(hd.clIx_lt hx.1 hx.2).1
 surj:=fun c hc=>by
  have hc':c<a.cl.length:=hc
  have:=hd.head (List.getElem?_eq_getElem hc')
  exact⟨headLo a.cl[c],⟨this.1,this.2.1⟩,this.2.2⟩
theorem count_texts {a:AutoL} (hg:GoodA a) (h4:a.cl.length≤4) {k:Nat} (hk:k≤4) :
  countA a.nx a.ac k=((((textsC a.cl.length k).countP fun w=>a.ac[runC a.nx 0 w]?.getD false:Nat):Int),0):=by
 have hp:∀ j,j≤k→(a.cl.length:Int) ^ j≤maxN:=fun j hj=>by
  have h1:a.cl.length ^ j≤4 ^ j:=Nat.pow_le_pow_left h4 j
  have h2:4 ^ j≤4 ^ 4:=Nat.pow_le_pow_right (by omega) (by omega)
  have h3:a.cl.length ^ j≤256:=by omega
  have h5:((a.cl.length ^ j:Nat):Int)=(a.cl.length:Int) ^ j:=by simp
  rw[← h5]
  unfold maxN;omega
 unfold countA
 rw[countsA_tally hg.rows hg.pos k hp]
 simp only
 rw[accSum_tally a.ac a.nx.length _ (endsC_lt hg.rows hg.pos k)]
 have e:((endsC a.nx a.cl.length k).countP fun s=>a.ac[s]?.getD false)=(textsC a.cl.length k).countP fun w=>a.ac[runC a.nx 0 w]?.getD false:=by
  rw[endsC,List.countP_map];rfl
 rw[e,if_neg]
 have h1:=List.countP_le_length (p:=fun w=>a.ac[runC a.nx 0 w]?.getD false) (l:=textsC a.cl.length k)
 rw[textsC_length]at h1
 have h2:a.cl.length ^ k≤4 ^ k:=Nat.pow_le_pow_left h4 k
 have h3:4 ^ k≤4 ^ 4:=Nat.pow_le_pow_right (by omega) hk
 unfold maxN;omega
def loOf (cl:Cls) (c:Nat):Int:=headLo (cl[c]?.getD [])
def TX (cl:Cls) (k:Nat):List (List Int):=(textsC cl.length k).map fun w=>w.map (loOf cl)
theorem TX_succ (cl:Cls) (k:Nat):TX cl (k+1)=(TX cl k).flatMap fun t=>(List.range cl.length).map fun c=>t++[loOf cl c]:=by
 simp only[TX,textsC,List.map_flatMap,List.flatMap_map,List.map_map]
 congr 1
 funext t
 apply List.map_congr_left
 intro c _
 simp
theorem TX_length {cl:Cls} (h4:cl.length≤4) {k:Nat} (hk:k≤5):(TX cl k).length≤1024:=by
 rw[TX,List.length_map,textsC_length]
 have h2:cl.length ^ k≤4 ^ k:=Nat.pow_le_pow_left h4 k
 have h3:4 ^ k≤4 ^ 5:=Nat.pow_le_pow_right (by omega) hk
 omega
theorem textsC_mem {m:Nat}:∀ {k:Nat}{w:List Nat},w∈textsC m k→w.length=k∧∀ c∈w,c<m
 | 0,w,h=>by simp[textsC]at h;subst h;simp
 | k+1,w,h=>by
   simp only[textsC,List.mem_flatMap,List.mem_map,List.mem_range]at h
   obtain⟨t,ht,c,hc,rfl⟩:=h
   obtain⟨h1,h2⟩:=textsC_mem ht
   refine⟨by simp[h1],fun d hd=>?_⟩
   rcases List.mem_append.1 hd with h|h
   ·exact h2 d h
   ·simp at h;omega
theorem run_lo {a:AutoL}{top:Int} (hd:DivOk a.cl top):∀(w:List Nat) (s:Nat),(∀ c∈w,c<a.cl.length)→(autoDA a).run s (w.map (loOf a.cl))=runC a.nx s w
 | [],_,_=>rfl
 | c::w,s,h=>by
   have hc:=h c (by simp)
   have e:clIx a.cl (loOf a.cl c)=c:=by
    rw[loOf,List.getElem?_eq_getElem hc,Option.getD_some]
    exact(hd.head (List.getElem?_eq_getElem hc)).2.2
   show (autoDA a).run (stepC a.nx s (clIx a.cl (loOf a.cl c))) (w.map (loOf a.cl))=runC a.nx (stepC a.nx s c) w
   rw[e]
   exact run_lo hd w _ (fun d hd=>h d (by simp[hd]))
theorem lo_sy {cl:Cls}{top:Int} (hd:DivOk cl top) {c:Nat} (hc:c<cl.length):0≤loOf cl c∧loOf cl c≤top:=by
 rw[loOf,List.getElem?_eq_getElem hc,Option.getD_some]
 have:=hd.head (List.getElem?_eq_getElem hc)
 exact⟨this.1,this.2.1⟩
def accW (d:Bool) (a:AutoL) (t:List Int):Bool×Int:=
 if validW d a≠0 then(false,validW d a) else if 65536<t.length then(false,4)
 else if t.all (fun x=>decide (0≤x)&&decide (x≤topZ a.cl.flatten)) then(a.ac[(autoDA a).run 0 t]?.getD false,0) else(false,5)
theorem accW_ok {a:AutoL}{d:Bool}{top:Int} (hv:validW d a=0) (ht:topZ a.cl.flatten=top) {t:List Int} (hl:t.length≤65536) (hx:Tx top t) :
  accW d a t=((autoDA a).ac ((autoDA a).run 0 t),0):=by
 have:t.all (fun x=>decide (0≤x)&&decide (x≤topZ a.cl.flatten))=true:=by
  rw[List.all_eq_true,ht]
  intro x h
  have:=hx x h
  simp only[Sy]at this
  simp only[Bool.and_eq_true,decide_eq_true_eq]
  exact this
 unfold accW
 rw[if_neg (by simp[hv]),if_neg (by omega),if_pos this]
 rfl
theorem accW_text {a:AutoL}{d:Bool}{top:Int} (hv:validW d a=0) (hd:DivOk a.cl top) (ht:topZ a.cl.flatten=top) {k:Nat} (hk:k≤65536) {w:List Nat} (hw:w∈textsC a.cl.length k) :
  accW d a (w.map (loOf a.cl))=(a.ac[runC a.nx 0 w]?.getD false,0):=by
 obtain⟨h1,h2⟩:=textsC_mem hw
 have hx:Tx top (w.map (loOf a.cl)):=fun x hx=>by
  obtain⟨c,hc,rfl⟩:=List.mem_map.1 hx
  exact lo_sy hd (h2 c hc)
 rw[accW_ok hv ht (by simp;omega) hx]
 rw[run_lo hd w 0 h2];rfl
def rowT (cl:Cls) (t:List Int) (n:Nat):List (List Int):=(List.range n).map fun c=>t++[loOf cl c]
def nxtT (cl:Cls) (L:List (List Int)):List (List Int):=L.flatMap fun t=>rowT cl t cl.length
theorem TX_next (cl:Cls) (k:Nat):TX cl (k+1)=nxtT cl (TX cl k):=TX_succ cl k
theorem rowT_succ (cl:Cls) (t:List Int) (n:Nat):rowT cl t (n+1)=rowT cl t n++[t++[loOf cl n]]:=by
 rw[rowT,List.range_succ,List.map_append];rfl
theorem rowT_len (cl:Cls) (t:List Int) (n:Nat):(rowT cl t n).length=n:=by simp[rowT]
theorem nxtT_take (cl:Cls) {L:List (List Int)}{j:Nat}{t:List Int} (h:L[j]?=some t):nxtT cl (L.take (j+1))=nxtT cl (L.take j)++rowT cl t cl.length:=by
 rw[nxtT,List.take_add_one,h,Option.toList_some,List.flatMap_append];simp[nxtT]
theorem nxtT_le (cl:Cls) (L:List (List Int)) (j:Nat):(nxtT cl (L.take j)).length≤(nxtT cl L).length:=by
 have h:nxtT cl L=nxtT cl (L.take j)++nxtT cl (L.drop j):=by
  rw[nxtT,nxtT,nxtT,← List.flatMap_append,List.take_append_drop]
 rw[h];simp
theorem count_take {α:Type}{p:α→Bool}{l:List α}{j:Nat}{x:α} (h:l[j]?=some x):(l.take (j+1)).countP p=(l.take j).countP p+if p x then 1 else 0:=by
 rw[List.take_add_one,h,Option.toList_some,List.countP_append];simp[List.countP_cons]
end Go.Ev
