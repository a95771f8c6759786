/- Functions of the program, each with what it computes; no further conditions. -/
import Derived.Test.YtjgmfjneajcbmaaGreatF06
import Derived.Test.YtjgmfjneajcbmaaGreatF20
import Derived.Test.YtjgmfjneajcbmaaGreatF19
import Derived.Test.YtjgmfjneajcbmaaGreatF18
set_option linter.unusedVariables false
set_option linter.unusedSimpArgs false
namespace Go.Ev
attribute [local go_sem] W_block evBin frzB List.length_append tySzE List.head?_drop Nat.mul_one sameAt_zero sameAt_two sameAt_three sameAt_four sameAt_five room_ok
section
attribute [local go_sem] AV.cells List.map_append
open Go.Proofs Go.RowKit Go.IntWalk
set_option maxRecDepth 100000
set_option maxHeartbeats 8000000
theorem call_frz' {P:Program} {pol:Pol} {f:Nat} {args l:List AV} {H H1:List MB} (hp:pol.pure f=true) (h:frzArgs pol f 0 args H=some (l,H1)) (ha:AV.plainL l=true) :
  call P pol f args H=call P pol f l H1:=by
 have hf:∀(l:List AV) (i:Nat),AV.plainL l=true→frzArgs pol f i l H1=some (l,H1):=by
  intro l
  induction l with
  | nil=>intro i _;rfl
  | cons x l ih=>
    intro i h
    simp only[AV.plainL,Bool.and_eq_true]at h
    simp only[frzArgs,fz_plain H1 h.1,ih (i+1) h.2]
    split<;>simp_all
 rw[call_eq,call_eq]
 unfold evStep
 simp only[hp,if_true,h,hf l 0 ha]
theorem codeCat_append:∀(a b:List Re) (f:Nat),codeCat (a++b) f=codeCat a f++codeCat b (f+lenL a)
 | [],b,f=>by simp[codeCat,lenL]
 | k::ks,b,f=>by simp[codeCat,lenL,codeCat_append ks b,Nat.add_assoc]
theorem codeCat_take {l:List Re} {i:Nat} {k:Re} (h:l[i]?=some k) (f:Nat):codeCat (l.take (i+1)) f=codeCat (l.take i) f++codeG k (f+lenL (l.take i)):=by
 rw[List.take_add_one,h,codeCat_append];simp[codeCat]
theorem lenL_take_le:∀(l:List Re) (i:Nat),lenL (l.take i)≤lenL l:=fun l i=>by
 have:=lenL_append (l.take i) (l.drop i)
 rw[List.take_append_drop]at this
 omega
theorem good_rest {caps top:Int} {a b:Re} {ks:List Re} {set:List (Int×Int)} {mn mx md n:Int} {neg:Bool} (h:GoodC caps top (.mk 3 set (a::b::ks) mn mx md n neg)) (hk:ks≠[]):GoodC caps top (.mk 3 [] (b::ks) 0 0 0 0 false):=by
 have hq:2≤(b::ks).length:=by
  cases ks with
  | nil=>exact absurd rfl hk
  | cons _ _=>simp
 refine⟨?_,?_⟩
 ·rw[wholeG,Bool.and_eq_true,wholeL_iff]
  refine⟨?_,fun k hk=>(h.kids k (List.mem_cons_of_mem _ hk)).whole⟩
  simp[formedG,kidsG]at hq ⊢
  omega
 ·rw[codable,Bool.and_eq_true,codableL_iff]
  exact⟨rfl,fun k hk=>(h.kids k (List.mem_cons_of_mem _ hk)).cod⟩
theorem f55 (caps top:Int) (hcaps:caps≤1000):∀(N:Nat) (r:Re),r.wt≤N→r.wt≤1000000→GoodC caps top r→Does55 r
 | 0,r,h,_,_=>by have:=r.wt_pos;omega
 | N+1,.mk op set kids mn mx md n neg,h,hN,hw=>by
   intro hl f hf H
   have hkl:=Re.wtL_len kids
   have hwt:1+set.length+Re.wtL kids=(Re.mk op set kids mn mx md n neg).wt:=by simp[Re.wt]
   have hop:=hw.op
   have hlen:=codeG_len caps top _ f hw
   obtain⟨hwk,hkd,hrp,hnn,ho1,ho2⟩:=whole_facts hw.whole
   have hgk:=hw.kids
   have ih:=fun k (hk:k∈kids)=>f55 caps top hcaps N k (by have:=Re.wtL_mem hk;omega) (by have:=Re.wtL_mem hk;omega) (hgk k hk)
   have e0:reAV (.mk op set kids mn mx md n neg)=.agg (nodeL op set kids mn mx md n neg):=congrArg AV.agg reC_mk
   rcases hop with rfl|rfl|rfl|rfl|rfl|rfl|rfl
   ·have hk0:kids=[]:=List.length_eq_zero_iff.1 (by simpa [kidsG] using hkd)
    subst hk0
    rw[e0]
    refine call_runO (k:=5) (els:=(codeG (.mk 0 set [] mn mx md n neg) f).map insAV) Tryz.func31 rfl rfl rfl rfl (fun _=>rfl) (by simp[AV.plain,AV.plainL,plain_span,plain_kids,plain_reC]) (plain_ins _) ?_ H
    have hc:codeG (.mk 0 set [] mn mx md n neg) f=[]:=by rw[codeG];rfl
    rw[← hlen,hc]
    simp +contextual (disch:=omega) only[Tryz.f31,dd31,go_sem,simprocAttr,mu31,↓wrap_up,↓wrap_down,↓wrap_pred,↓wrap_sub_nat]
    exact own_end (c:=[]) rfl rfl rfl rfl rfl (fun j=>.nil)
   ·rw[e0]
    refine call_runO (k:=5) (els:=(codeG (.mk 1 set kids mn mx md n neg) f).map insAV) Tryz.func31 rfl rfl rfl rfl (fun _=>rfl) (by simp[AV.plain,AV.plainL,plain_span,plain_kids,plain_reC]) (plain_ins _) ?_ H
    have hc:codeG (.mk 1 set kids mn mx md n neg) f=[⟨1,0,0,0,set⟩]:=by rw[codeG];rfl
    rw[← hlen,hc]
    simp +contextual (disch:=omega) only[Tryz.f31,dd31,go_sem,simprocAttr,mu31,↓wrap_up,↓wrap_down,↓wrap_pred,↓wrap_sub_nat]
    exact own_end (c:=[⟨1,0,0,0,set⟩]) rfl rfl rfl rfl rfl (fun j=>keep_ins [⟨1,0,0,0,set⟩])
   ·rw[e0]
    refine call_runO (k:=5) (els:=(codeG (.mk 2 set kids mn mx md n neg) f).map insAV) Tryz.func31 rfl rfl rfl rfl (fun _=>rfl) (by simp[AV.plain,AV.plainL,plain_span,plain_kids,plain_reC]) (plain_ins _) ?_ H
    have hc:codeG (.mk 2 set kids mn mx md n neg) f=codeCat kids f:=by rw[codeG];rfl
    have hL:lenG (.mk 2 set kids mn mx md n neg)=lenL kids:=by rw[lenG];rfl
    rw[hL]at hlen hl hf ⊢
    rw[hc]at hlen ⊢
    simp +contextual (disch:=omega) only[Tryz.f31,dd31,go_sem,simprocAttr,mu31,↓wrap_up,↓wrap_down,↓wrap_pred,↓wrap_sub_nat]
    refine W_count (M:=(mskOf (pol1.mask 31) (pol1.gc 31) (pol1.acts 31) 0 9)) rfl kids.length (fun i=>(⟨132,[(6,I i),(5,.ms 1 5 (lenL (kids.take i)) 0 (lenL (kids.take i))),(2,.rf 0 1 0 0),(1,I f)],[.row 8 [.agg (nodeL 2 set kids mn mx md n neg)] 0,.row 5 ((codeCat (kids.take i) f).map insAV) 0]⟩:St)) (fun _=>True) ?_ ?_ trivial _ (by first|rfl|(refine prep_to (n:=2) (m:=⟨some [6,5,2,1],some 2,[]⟩) rfl rfl ?_ ?_ ?_<;>first|rfl|(simp[keepT,AV.underL,AV.under,MB.under,underL_plain,under_plain,underL_append,plain_ints,plain_span,plain_ins,plain_prg,-List.map_take,-List.map_replicate,-List.map_set,lenL,plain_kids,codeCat];done)|(simp[keepT,AV.underL,AV.under,MB.under,underL_plain,under_plain,underL_append,plain_ints,plain_span,plain_ins,plain_prg,-List.map_take,-List.map_replicate,-List.map_set,lenL,plain_kids,codeCat];omega)))
    ·intro i hi _
     obtain⟨k,hk⟩:∃ k,kids[i]?=some k:=⟨_,List.getElem?_eq_getElem hi⟩
     have hkm:=List.mem_of_getElem? hk
     have hl8:=reC_len k
     have ht8:=reC_take k
     have e1:=lenL_take hk
     have e2:=codeCat_take hk f
     have e4:=lenL_take_le kids (i+1)
     have hck:=codeCat_len caps top (kids.take i) f (fun k h=>hgk k (List.mem_of_mem_take h))
     have hk5:=codeG_len caps top k (f+lenL (kids.take i)) (hgk k hkm)
     have ihk:=ih k hkm (by omega) (f+lenL (kids.take i)) (by omega)
     have hadd:(f:Int)+((lenL (kids.take i):Nat):Int)=((f+lenL (kids.take i):Nat):Int):=by omega
     have happ:=fun b0=>app_row (H:=[b0,.row 5 ((codeCat (kids.take i) f).map insAV) 0,.row 5 ((codeG k (f+lenL (kids.take i))).map insAV) 0]) (i:=1) (j:=2) (n:=lenL (kids.take i)) (m:=lenG k) rfl rfl (by rw[List.length_map];exact hck) hk5 (Nat.zero_le _) (by omega)
     simp +contextual (disch:=omega) only[Tryz.f31,dd31,go_sem,simprocAttr,mu31,↓wrap_up,↓wrap_down,↓wrap_pred,↓wrap_sub_nat,hk,ihk,hadd,happ,hl8,ht8]
     rw[e1,e2,List.map_append]
     exact(by first|rfl|(refine prep_to (n:=2) (m:=⟨some [6,5,2,1],some 2,[]⟩) rfl rfl ?_ ?_ ?_<;>first|rfl|(simp[keepT,AV.underL,AV.under,MB.under,underL_plain,under_plain,underL_append,plain_ints,plain_span,plain_ins,plain_prg,-List.map_take,-List.map_replicate,-List.map_set,plain_kids];done)|(simp[keepT,AV.underL,AV.under,MB.under,underL_plain,under_plain,underL_append,plain_ints,plain_span,plain_ins,plain_prg,-List.map_take,-List.map_replicate,-List.map_set,plain_kids];omega)))
    ·intro _
     rw[List.take_length]
     simp +contextual (disch:=omega) only[Tryz.f31,dd31,go_sem,simprocAttr,mu31,↓wrap_up,↓wrap_down,↓wrap_pred,↓wrap_sub_nat]
     exact own_end rfl rfl rfl hlen rfl (fun j=>keep_ins _)
   ·match kids,hkd with
    | [],hkd=>simp[kidsG]at hkd
    | [_],hkd=>simp[kidsG]at hkd
    | k1::k2::ks,hkd=>
    have g1:=hgk k1 (List.mem_cons_self ..)
    have g2:=hgk k2 (List.mem_cons_of_mem _ (List.mem_cons_self ..))
    have hc:codeG (.mk 3 set (k1::k2::ks) mn mx md n neg) f=⟨2,(f+1:Nat),(f+lenG k1+2:Nat),0,[]⟩::(codeG k1 (f+1)++(⟨3,(f+lenL (k1::k2::ks)+2 * (k2::ks).length:Nat),0,0,[]⟩::codeAlt (k2::ks) (f+lenG k1+2))):=by
     rw[codeG,if_neg (by omega),if_neg (by omega),if_neg (by omega),if_pos rfl,codeAlt,if_neg (by simp)]
    have hL:lenG (.mk 3 set (k1::k2::ks) mn mx md n neg)=lenG k1+lenL (k2::ks)+2 * (ks.length+1):=by
     rw[lenG,if_neg (by omega),if_pos rfl,lenL]
     simp only[List.length_cons]
     omega
    have hal:=codeAlt_len caps top (k2::ks) (f+lenG k1+2) (fun k h=>hgk k (List.mem_cons_of_mem _ h)) (by simp)
    have hjmp:f+lenL (k1::k2::ks)+2 * (k2::ks).length=f+lenG k1+2+(lenL (k2::ks)+2 * ks.length):=by
     rw[lenL];simp only[List.length_cons];omega
    rw[hL]at hlen hl hf ⊢
    rw[hc,hjmp]at hlen ⊢
    simp only[List.length_cons,Nat.add_sub_cancel]at hal
    have hl2:lenL (k2::ks)=lenG k2+lenL ks:=rfl
    have ih1:=ih k1 (List.mem_cons_self ..) (by omega) (f+1) (by omega)
    have hk1:=codeG_len caps top k1 (f+1) g1
    have hsec:∀ H,call Tryz.prog pol1 31 [if ks.length=0 then reAV k2 else .agg [I 3,.sl true [],.sl false ((k2::ks).map reAV),I 0,I 0,I 0,I 0,.bool false],I (f+lenG k1+2:Nat)] H =
      some (.ms H.length 5 (lenL (k2::ks)+2 * ks.length) 0 (lenL (k2::ks)+2 * ks.length),H++[.row 5 ((codeAlt (k2::ks) (f+lenG k1+2)).map insAV) 0]):=by
     intro H
     split
     ·rename_i h0
      have:ks=[]:=List.length_eq_zero_iff.1 h0
      subst this
      have ih2:=ih k2 (List.mem_cons_of_mem _ (List.mem_cons_self ..)) (by omega) (f+lenG k1+2) (by omega) H
      rw[ih2]
      simp[codeAlt,lenL]
     ·rename_i h0
      have hne:ks≠[]:=fun e=>h0 (by rw[e];rfl)
      have ihr:=f55 caps top hcaps N (.mk 3 [] (k2::ks) 0 0 0 0 false) (by simp only[Re.wt,Re.wtL,List.length_nil]at h ⊢;have:=k1.wt_pos;omega) (by simp only[Re.wt,Re.wtL,List.length_nil]at hN ⊢;have:=k1.wt_pos;omega) (good_rest hw hne)
      have hlr:lenG (.mk 3 [] (k2::ks) 0 0 0 0 false)=lenL (k2::ks)+2 * ks.length:=by
       rw[lenG,if_neg (by omega),if_pos rfl];simp
      have hcr:codeG (.mk 3 [] (k2::ks) 0 0 0 0 false) (f+lenG k1+2)=codeAlt (k2::ks) (f+lenG k1+2):=by rw[codeG];rfl
      have ih2:=ihr (by omega) (f+lenG k1+2) (by omega) H
      rw[hlr,hcr]at ih2
      rw[← ih2]
      refine call_frz' rfl ?_ (by simp[AV.plain,AV.plainL,plain_reC])
      have hby:∀ i,pol1.byref 31 i=false:=fun i=>rfl
      have hz:fz (.agg [I 3,.sl true [],.sl false ((k2::ks).map reAV),I 0,I 0,I 0,I 0,.bool false]) H=some (reAV (.mk 3 [] (k2::ks) 0 0 0 0 false),H):=by
       rw[show reAV (.mk 3 [] (k2::ks) 0 0 0 0 false)=.agg (nodeL 3 [] (k2::ks) 0 0 0 0 false) from congrArg AV.agg reC_mk]
       have hzk:∀ H,fzL (fzJ 6) ((k2::ks).map reAV) H=some ((k2::ks).map reAV,H):=fun H=>fzL_plain _ _ H (plain_kids _)
       simp only[fz,fzA,fzL,hzk,List.map_nil]
       rfl
      have h2:∀ x H,fz (I x) H=some (I x,H):=fun x H=>rfl
      simp only[frzArgs,hby,Bool.false_eq_true,if_false,hz,h2]
    rw[e0]
    refine call_runO (k:=5) Tryz.func31 rfl rfl rfl rfl (fun _=>rfl) (by simp[AV.plain,AV.plainL,plain_span,plain_kids,plain_reC]) (plain_ins _) ?_ H
    have hl8:=reC_len k1
    have ht8:=reC_take k1
    have hl9:=reC_len k2
    have ht9:=reC_take k2
    have hok:=reC_ok k2
    have hadd:((f:Int)+(lenG k1:Int))=((f+lenG k1:Nat):Int):=by omega
    have had2:((f+lenG k1:Nat):Int)+2=((f+lenG k1+2:Nat):Int):=by omega
    generalize hS:codeAlt (k2::ks) (f+lenG k1+2)=S at *
    generalize hM:lenL (k2::ks)+2 * ks.length=m at *
    have hLm:lenG k1+lenL (k2::ks)+2 * (ks.length+1)=1+lenG k1+1+m:=by omega
    rw[hLm]at hlen hl hf ⊢
    generalize codeG k1 (f+1)=K at *
    have had3:((f+lenG k1+2:Nat):Int)+(m:Int)=((f+lenG k1+2+m:Nat):Int):=by omega
    have hap1:=fun b0 X Y Z x y=>app_one (H:=[b0,.row 5 [] 0,X,Y,Z]) (i:=1) (n:=0) (t:=true) (y:=.agg [I 2,I x,I y,I 0,.sl true []]) rfl rfl rfl (Nat.zero_le _) (by omega)
    have hap2:=fun b0 Y Z y=>app_row (H:=[b0,.row 5 [y] 0,.row 5 (K.map insAV) 0,Y,Z]) (i:=1) (j:=2) (n:=1) (m:=lenG k1) rfl rfl rfl hk1 (Nat.zero_le _) (by omega)
    have hap3:=fun b0 X Y Z y w=>app_one (H:=[b0,.row 5 (y::K.map insAV) 0,X,Y,Z]) (i:=1) (n:=1+lenG k1) (t:=true) (y:=.agg [I 3,I w,I 0,I 0,.sl true []]) rfl (by simp[hk1];omega) rfl (Nat.zero_le _) (by omega)
    have hap4:=fun b0 X Y y w=>app_row (H:=[b0,.row 5 (y::(K.map insAV++[w])) 0,X,Y,.row 5 (S.map insAV) 0]) (i:=1) (j:=4) (n:=1+lenG k1+1) (m:=m) rfl rfl (by simp[hk1];omega) hal (Nat.zero_le _) (by omega)
    have fin:∀(H:List MB) (y w:AV),(∀ j H,fzA j y H=some (insAV ⟨2,(f+1:Nat),(f+lenG k1+2:Nat),0,[]⟩,H))→(∀ j H,fzA j w H=some (insAV ⟨3,(f+lenG k1+2+m:Nat),0,0,[]⟩,H))→getRow H 1=some (5,y::(K.map insAV++[w]++S.map insAV),0)→retPol pol1 31 [] (.ms 1 5 (1+lenG k1+1+m) 0 (1+lenG k1+1+m)) H=some (.ms 0 5 (1+lenG k1+1+m) 0 (1+lenG k1+1+m),[.row 5 ((⟨2,(f+1:Nat),(f+lenG k1+2:Nat),0,[]⟩::(K++(⟨3,(f+lenG k1+2+m:Nat),0,0,[]⟩::S))).map insAV) 0]):=by
     intro H y w hy hw hr
     refine own_end rfl rfl hr hlen rfl (fun j=>?_)
     simp only[List.map_cons,List.map_append,List.append_assoc,List.singleton_append]
     exact .cons (hy j) ((keep_ins K).append (.cons (hw j) (keep_ins S)))
    cases ks with
    | nil=>
      simp only[List.length_nil,if_true]at hsec
      simp +contextual (disch:=omega) only[Tryz.f31,dd31,go_sem,simprocAttr,mu31,↓wrap_up,↓wrap_down,↓wrap_pred,↓wrap_sub_nat,ih1,hsec,hadd,had2,had3,hap1,hap2,hap3,hap4,hl8,ht8,hl9,ht9,hok]
      refine Eq.trans (fin _ (.agg [I 2,I (f+1:Nat),I (f+lenG k1+2:Nat),I 0,.sl true []]) (.agg [I 3,I (f+lenG k1+2+m:Nat),I 0,I 0,.sl true []]) (fun j H=>rfl) (fun j H=>rfl) ?_) ?_
      ·rfl
      ·simp only[List.map_cons,List.map_append]
    | cons k3 ks=>
      simp only[List.length_cons,Nat.add_eq_zero_iff,Nat.one_ne_zero,and_false,if_false,List.map_cons]at hsec
      have hlk:(ks.map reAV).all (fun y=>decide (y.cells.length=8))=true:=by simp[AV.cells,reC_len]
      simp only[AV.cells]at hlk
      have hl3:=reC_len k3
      have htk:List.take ks.length (ks.map reAV)=ks.map reAV:=List.take_of_length_le (by simp)
      have hdr:List.drop 8 (reC k2)=[]:=List.drop_eq_nil_of_le (by rw[hl9];omega)
      simp +contextual (disch:=omega) only[Tryz.f31,dd31,go_sem,simprocAttr,mu31,↓wrap_up,↓wrap_down,↓wrap_pred,↓wrap_sub_nat,ih1,hsec,hadd,had2,had3,hap1,hap2,hap3,hap4,hl8,ht8,hl9,ht9,hok,hlk,hl3,htk,hdr]
      refine Eq.trans (fin _ (.agg [I 2,I (f+1:Nat),I (f+lenG k1+2:Nat),I 0,.sl true []]) (.agg [I 3,I (f+lenG k1+2+m:Nat),I 0,I 0,.sl true []]) (fun j H=>rfl) (fun j H=>rfl) ?_) ?_
      ·rfl
      ·simp only[List.map_cons,List.map_append]
   ·obtain⟨k,rfl⟩:∃ k,kids=[k]:=List.length_eq_one_iff.1 (by simpa [kidsG] using hkd)
    have h116:=f116 caps top set k mn mx md n neg hw hN (ih k (List.mem_singleton.2 rfl)) hl f hf
    rw[e0]at h116 ⊢
    refine call_runO (k:=5) (els:=(codeG (.mk 4 set [k] mn mx md n neg) f).map insAV) Tryz.func31 rfl rfl rfl rfl (fun _=>rfl) (by simp[AV.plain,AV.plainL,plain_span,plain_kids,plain_reC]) (plain_ins _) ?_ H
    simp only[nodeL,List.map_cons,List.map_nil]at h116
    generalize lenG (.mk 4 set [k] mn mx md n neg)=LL at *
    generalize codeG (.mk 4 set [k] mn mx md n neg) f=C at *
    simp +contextual (disch:=omega) only[Tryz.f31,dd31,go_sem,simprocAttr,mu31,↓wrap_up,↓wrap_down,↓wrap_pred,↓wrap_sub_nat,h116]
    exact own_end rfl rfl rfl hlen rfl (fun j=>keep_ins _)
   ·obtain⟨k,rfl⟩:∃ k,kids=[k]:=List.length_eq_one_iff.1 (by simpa [kidsG] using hkd)
    have hn1:=hnn (.inl rfl)
    rw[e0]
    refine call_runO (k:=5) (els:=(codeG (.mk 5 set [k] mn mx md n neg) f).map insAV) Tryz.func31 rfl rfl rfl rfl (fun _=>rfl) (by simp[AV.plain,AV.plainL,plain_span,plain_kids,plain_reC]) (plain_ins _) ?_ H
    have hc:codeG (.mk 5 set [k] mn mx md n neg) f=⟨4,0,0,2 * n - 2,[]⟩::(codeG k (f+1)++[⟨4,0,0,2 * n - 1,[]⟩]):=by rw[codeG];rfl
    have hL:lenG (.mk 5 set [k] mn mx md n neg)=1+lenG k+1:=by
     rw[lenG,if_neg (by omega),if_neg (by omega),if_pos rfl];simp[lenL];omega
    rw[hL]at hlen hl hf ⊢
    rw[hc]at hlen ⊢
    have hl8:=reC_len k
    have ht8:=reC_take k
    have ihk:=ih k (List.mem_singleton.2 rfl) (by omega) (f+1) (by omega)
    have hk5:=codeG_len caps top k (f+1) (hgk k (List.mem_singleton.2 rfl))
    generalize codeG k (f+1)=K at *
    have hap1:=fun b0 w=>app_one (H:=[b0,.row 5 [] 0]) (i:=1) (n:=0) (t:=true) (y:=.agg [I 4,I 0,I 0,I w,.sl true []]) rfl rfl rfl (Nat.zero_le _) (by omega)
    have hap2:=fun b0 y=>app_row (H:=[b0,.row 5 [y] 0,.row 5 (K.map insAV) 0]) (i:=1) (j:=2) (n:=1) (m:=lenG k) rfl rfl rfl hk5 (Nat.zero_le _) (by omega)
    have hap3:=fun b0 y w=>app_one (H:=[b0,.row 5 (y::K.map insAV) 0,.row 5 (K.map insAV) 0]) (i:=1) (n:=1+lenG k) (t:=true) (y:=.agg [I 4,I 0,I 0,I w,.sl true []]) rfl (by simp[hk5];omega) rfl (Nat.zero_le _) (by omega)
    simp +contextual (disch:=omega) only[Tryz.f31,dd31,go_sem,simprocAttr,mu31,↓wrap_up,↓wrap_down,↓wrap_pred,↓wrap_sub_nat,ihk,hap1,hap2,hap3,hl8,ht8]
    repeat' (first|intro _|apply And.intro|(unfold dOk;kernel_rfl)|exact St.beq_refl _|(show altO _ _ _ _=true;kernel_rfl)|(show (_ || _)=true;kernel_rfl)|(show (_ && _)=true;kernel_rfl))
    refine own_end (c:=⟨4,0,0,2 * n - 2,[]⟩::(K++[⟨4,0,0,2 * n - 1,[]⟩])) rfl rfl rfl (by simpa using hlen) (by simp only[List.map_append,List.map_cons,List.map_nil]) (fun j=>?_)
    simp only[List.map_append,List.map_cons,List.map_nil]
    exact .cons (fun H=>rfl) ((keep_ins K).append (.one fun H=>rfl))
   ·rw[e0]
    refine call_runO (k:=5) (els:=(codeG (.mk 11 set kids mn mx md n neg) f).map insAV) Tryz.func31 rfl rfl rfl rfl (fun _=>rfl) (by simp[AV.plain,AV.plainL,plain_span,plain_kids,plain_reC]) (plain_ins _) ?_ H
    have hc:codeG (.mk 11 set kids mn mx md n neg) f=[⟨5,0,0,n,[]⟩]:=by rw[codeG];rfl
    rw[← hlen,hc]
    simp +contextual (disch:=omega) only[Tryz.f31,dd31,go_sem,simprocAttr,mu31,↓wrap_up,↓wrap_down,↓wrap_pred,↓wrap_sub_nat]
    exact own_end (c:=[⟨5,0,0,n,[]⟩]) rfl rfl rfl rfl rfl (fun j=>.one fun H=>rfl)
end
section
attribute [local go_sem] evAppend List.map_append
open Go.Proofs Go.RowKit Go.IntWalk
set_option maxRecDepth 100000
set_option maxHeartbeats 8000000
def Run138 (caps top:Int) (t:List Int) (fuel:Int) (R:RunT):Prop:=
 ∀(A K:List MB) (g:Goal) (i:Int) (c:Caps) (s:SS) (b:Bool) (s':SS),GG caps top t.length s.steps g→0≤i→i≤t.length→c.length≤1000→SPre fuel s→R g i c s=some (b,s') →
  call Tryz.prog pol1 97 [.rf A.length 1 0 0,goalA g,I i,capA c] (srH A t fuel s s.ends.length K)=some (.bool b,srH A t fuel s' s'.ends.length K)
theorem call_frzN {P:Program} {pol:Pol} {f:Nat} {args l:List AV} {H H1:List MB} (hp:pol.pure f=false) (he:pol.ext f=none) (h:frzArgs pol f 0 args H=some (l,H1)) (h2:frzArgs pol f 0 l H1=some (l,H1)) :
  call P pol f args H=call P pol f l H1:=by
 rw[call_eq,call_eq]
 unfold evStep
 simp only[hp,Bool.false_eq_true,if_false]
 unfold evBody
 simp only[he,h,h2]
theorem box138 (A K:List MB) (t:List Int) (fuel:Int) (s:SS) (e:Nat) (cells:List AV) (i:Int) (c:Caps) (hp:AV.plainL cells=true) :
  call Tryz.prog pol1 97 [.rf A.length 1 0 0,.rf (A.length+(K.length+1+1+1)) 1 0 0,I i,capA c] (srH A t fuel s e (K++[.row 12 [.agg cells] 0])) =
   call Tryz.prog pol1 97 [.rf A.length 1 0 0,.pt cells,I i,capA c] (srH A t fuel s e (K++[.row 12 [.agg cells] 1])):=by
 refine call_frzN rfl rfl ?_ (frzArgs_mix _ _ _ (by simp[mixOk,show pol1.byref 97 0=true from rfl,AV.plain,hp,plain_span]))
 have h0:pol1.byref 97 0=true:=rfl
 have h1:pol1.byref 97 1=false:=rfl
 have h2:pol1.byref 97 2=false:=rfl
 have h3:pol1.byref 97 3=false:=rfl
 have hget:∀ v,(srH A t fuel s e (K++[v]))[A.length+(K.length+1+1+1)]?=some v:=fun v=>by
  rw[List.getElem?_append_right (by omega)];simp
 have hset:∀ u v,(srH A t fuel s e (K++[u])).set (A.length+(K.length+1+1+1)) v=srH A t fuel s e (K++[v]):=fun u v=>by
  rw[List.set_append_right _ _ (by omega)];simp
 have hz:=fz_rf (id:=A.length+(K.length+1+1+1)) (tot:=1) (i:=0) (j:=0) (k:=12) (z:=0) (H:=srH A t fuel s e (K++[.row 12 [.agg cells] 0])) (els:=[.agg cells]) (x:=.agg cells) (by unfold getRow;rw[hget]) rfl rfl hp
 have hm:mark (srH A t fuel s e (K++[.row 12 [.agg cells] 0])) (A.length+(K.length+1+1+1)) (0+1)=srH A t fuel s e (K++[.row 12 [.agg cells] 1]):=by
  unfold mark getRow
  simp only[hget,hset]
  rfl
 rw[hm]at hz
 have hc:∀ H,fz (capA c) H=some (capA c,H):=fun H=>fz_plain H (by simp[AV.plain,plain_span])
 have hi:∀ H,fz (I i) H=some (I i,H):=fun H=>rfl
 simp only[frzArgs,h0,h1,h2,h3,Bool.false_eq_true,if_false,if_true,hz,hc,hi]
 rfl
theorem sr_cat {A K L:List MB} {t:List Int} {fuel:Int} {s:SS} {e:Nat}:srH A t fuel s e K++L=srH A t fuel s e (K++L):=by simp
theorem sr_get {A K L:List MB} {t:List Int} {fuel:Int} {s:SS} {e:Nat} {v:MB}:(srH A t fuel s e (K++v::L))[A.length+(K.length+1+1+1)]?=some v:=by
 rw[List.getElem?_append_right (by omega)];simp
theorem sr_set {A K L:List MB} {t:List Int} {fuel:Int} {s:SS} {e:Nat} {u v:MB}:(srH A t fuel s e (K++u::L)).set (A.length+(K.length+1+1+1)) v=srH A t fuel s e (K++v::L):=by
 rw[List.set_append_right _ _ (by omega)];simp
theorem sr_get1 {A K L:List MB} {t:List Int} {fuel:Int} {s:SS} {e:Nat} {u v:MB}:(srH A t fuel s e (K++u::v::L))[A.length+(K.length+1+1+1+1)]?=some v:=by
 rw[List.getElem?_append_right (by omega)]
 rw[show A.length+(K.length+1+1+1+1) - A.length=(K.length+1)+1+1+1 by omega]
 simp only[List.getElem?_cons_succ]
 rw[List.getElem?_append_right (by omega)];simp
theorem sr_set1 {A K L:List MB} {t:List Int} {fuel:Int} {s:SS} {e:Nat} {u v w:MB}:(srH A t fuel s e (K++u::v::L)).set (A.length+(K.length+1+1+1+1)) w=srH A t fuel s e (K++u::w::L):=by
 rw[List.set_append_right _ _ (by omega)]
 rw[show A.length+(K.length+1+1+1+1) - A.length=(K.length+1)+1+1+1 by omega]
 simp only[List.set_cons_succ]
 rw[List.set_append_right _ _ (by omega)];simp
theorem sr_same {A K L L':List MB} {t:List Int} {fuel:Int} {s:SS} {e:Nat} {u:MB}:sameAt (A.length+(K.length+1+1+1)) (srH A t fuel s e (K++u::L)) (srH A t fuel s e (K++u::L'))=true:=by
 unfold sameAt
 rw[sr_get,sr_get]
 exact MB.beq_refl u
theorem fz_two {H H1 H2:List MB} {a b:Nat} {pre ca:List AV} (hb:getRow H b=some (12,[.agg (pre++[.rf a 1 0 0])],0)) (hm:mark H b 1=H1) (ha:getRow H1 a=some (12,[.agg ca],0)) (hm2:mark H1 a 1=H2)
  (hp:AV.plainL pre=true) (hc:AV.plainL ca=true):fz (.rf b 1 0 0) H=some (.pt (pre++[.pt ca]),H2):=by
 have hin:fzA (fzJ 5) (.rf a 1 0 0) H1=some (.pt ca,H2):=by
  simp only[fzA,ha,List.length_cons,List.length_nil,Nat.zero_add,if_true,List.getElem?_cons_zero,AV.cells,List.drop_zero,hm2,fzJ,fzL_plain _ _ _ hc]
 have hl:fzL (fzJ 5) (pre++[.rf a 1 0 0]) H1=some (pre++[.pt ca],H2):=by
  rw[fzL_append,fzL_plain _ _ _ hp]
  simp only[fzL,hin]
 simp only[fz,fzA,hb,List.length_cons,List.length_nil,Nat.zero_add,if_true,List.getElem?_cons_zero,AV.cells,List.drop_zero,hm]
 show (match fzL (fzJ 5) (pre++[AV.rf a 1 0 0]) H1 with|some (ys,H')=>some (AV.pt ys,H')|none=>none)=_
 rw[hl]
theorem sr_get2 {A K L:List MB} {t:List Int} {fuel:Int} {s:SS} {e:Nat} {u v w:MB}:(srH A t fuel s e (K++u::v::w::L))[A.length+(K.length+2+1+1+1)]?=some w:=by
 rw[List.getElem?_append_right (by omega)]
 rw[show A.length+(K.length+2+1+1+1) - A.length=(K.length+2)+1+1+1 by omega]
 simp only[List.getElem?_cons_succ]
 rw[List.getElem?_append_right (by omega)];simp
theorem sr_set2 {A K L:List MB} {t:List Int} {fuel:Int} {s:SS} {e:Nat} {u v w x:MB}:(srH A t fuel s e (K++u::v::w::L)).set (A.length+(K.length+2+1+1+1)) x=srH A t fuel s e (K++u::v::x::L):=by
 rw[List.set_append_right _ _ (by omega)]
 rw[show A.length+(K.length+2+1+1+1) - A.length=(K.length+2)+1+1+1 by omega]
 simp only[List.set_cons_succ]
 rw[List.set_append_right _ _ (by omega)];simp
theorem repR_mk {fuel:Int} {R:RunT} {op:Int} {set:List (Int×Int)} {kid:Re} {mn mx md n:Int} {neg:Bool} {k:Int} {next:Goal} {i:Int} {c:Caps} {s:SS} :
 repR fuel R (.mk op set [kid] mn mx md n neg) k next i c s =
  if(stepS fuel s).empty=true then some (true,stepS fuel s)
  else if k < mn then R (.mk 0 kid 0 0 (.mk 2 (.mk op set [kid] mn mx md n neg) k i next)) i c (stepS fuel s)
  else if md=1 then orR (R next i c (stepS fuel s)) fun s2=>if(decide (mx = -1) || decide (k < mx))=true then R (.mk 0 kid 0 0 (.mk 2 (.mk op set [kid] mn mx md n neg) k i next)) i c s2 else some (false,s2)
  else orR (if(decide (mx = -1) || decide (k < mx))=true then R (.mk 0 kid 0 0 (.mk 2 (.mk op set [kid] mn mx md n neg) k i next)) i c (stepS fuel s) else some (false,stepS fuel s)) fun s2=>R next i c s2:=rfl
theorem f152 {caps top:Int} {t:List Int} {fuel:Int} (ht:t.length≤65536) (hf:0≤fuel∧fuel≤1000000) {R:RunT} (hP:RunP caps top t fuel R) (hR:Run138 caps top t fuel R)
  (A K:List MB) (re:Re) (k fr i:Int) (next:Goal) (c:Caps) (s:SS) (b:Bool) (s':SS) (h:RGood caps top re) (ho:re.op=4) (hk:0≤k∧k≤s.steps) (hi:0≤i∧i≤t.length)
  (hn:GG caps top t.length s.steps next) (hc:c.length≤1000) (hs:SPre fuel s) (he:repR fuel R re k next i c s=some (b,s')) :
  call Tryz.prog pol1 131 [.rf A.length 1 0 0,.pt (goalC 1 re k fr next),I i,capA c] (srH A t fuel s s.ends.length K)=some (.bool b,srH A t fuel s' s'.ends.length K):=by
 have h161:=fun K=>f161 A K t fuel s s.ends.length ⟨hs.st.1,by have:=hs.st;omega⟩
 have ret:=fun b s' e' L=>ret_sr (f:=131) rfl rfl b A K L t fuel s s' s.ends.length e'
 obtain⟨kid,hkid,hgk⟩:=rep_kid h ho
 have hmd:=h.md
 obtain⟨op,set,kids,mn,mx,md,n,neg⟩:=re
 simp only[Re.kids,Re.op,Re.md]at hkid ho hmd
 subst hkid
 subst ho
 have hrep:=(whole_facts h.good.whole).2.2.1 rfl
 rw[repR_mk]at he
 have hp8:=plain_goal next
 have hl8:=reC_len kid
 have ht8:=reC_take kid
 have hok8:=reC_ok kid
 have hG:goalC 1 (.mk 4 set [kid] mn mx md n neg) k fr next=[I 1,I 4,.sl false (set.map spanAV),.sl false [reAV kid],I mn,I mx,I md,I n,.bool neg,I k,I fr,goalA next]:=by
  rw[goalC,reC_mk];rfl
 have hgp:=plain_goalC 1 (.mk 4 set [kid] mn mx md n neg) k fr next
 rw[hG]at hgp ⊢
 have fr':frzArgs pol1 131 0 [.rf A.length 1 0 0,.pt [I 1,I 4,.sl false (set.map spanAV),.sl false [reAV kid],I mn,I mx,I md,I n,.bool neg,I k,I fr,goalA next],I i,capA c] (srH A t fuel s s.ends.length K)=some ([.rf A.length 1 0 0,.pt [I 1,I 4,.sl false (set.map spanAV),.sl false [reAV kid],I mn,I mx,I md,I n,.bool neg,I k,I fr,goalA next],I i,capA c],srH A t fuel s s.ends.length K):=frzArgs_mix _ _ _ (by
  simp only[mixOk,show pol1.byref 131 0=true from rfl,AV.plain,hgp,plain_span,Bool.true_or,Bool.or_true,Bool.and_self,Bool.and_true];rfl)
 refine call_run2 (pol:=pol1) Tryz.func131 rfl rfl rfl rfl fr' ?_
 by_cases h1:(stepS fuel s).empty=true
 ·rw[if_pos h1]at he
  simp only[Option.some.injEq,Prod.mk.injEq]at he
  obtain⟨rfl,rfl⟩:=he
  have h161:=fun K=>(h161 K).trans (by rw[h1])
  simp +contextual (disch:=omega) only[Tryz.f131,dd131,go_sem,simprocAttr,AV.cells,mu131,↓wrap_up,↓wrap_down,↓wrap_pred,↓wrap_sub_nat,h161,hmd,sr_cat,sr_get,sr_set]
  exact ret true (stepS fuel s) _ _
 ·rw[if_neg h1]at he
  have h1':(stepS fuel s).empty=false:=by simpa using h1
  obtain⟨p1,p2⟩:=step_false hs h1'
  have h161:=fun K=>(h161 K).trans (by rw[h1'])
  have hst:(stepS fuel s).steps=s.steps+1:=rfl
  have hn1:=hn.mono (show s.steps≤(stepS fuel s).steps by omega)
  have hon:=once_good (next:=next) (i:=i) (L:=t.length) (steps:=(stepS fuel s).steps) h hgk rfl (k:=k) ⟨hk.1,by omega⟩ hi hn1
  have hka:∀ L L':List MB,(K++L)++L' = K++(L++L'):=fun L L'=>List.append_assoc K L L'
  have hfz:∀(R0:MB) (ca:List AV),AV.plainL ca=true→fz (.rf (A.length+(K.length+2+1+1+1)) 1 0 0) (srH A t fuel (stepS fuel s) s.ends.length (K++[R0,.row 12 [.agg ca] 0,.row 12 [.agg (I 0::(reC kid++[I 0,I 0]++[.rf (A.length+(K.length+1+1+1+1)) 1 0 0]))] 0])) =
    some (.pt (I 0::(reC kid++[I 0,I 0]++[.pt ca])),srH A t fuel (stepS fuel s) s.ends.length (K++[R0,.row 12 [.agg ca] 1,.row 12 [.agg (I 0::(reC kid++[I 0,I 0]++[.rf (A.length+(K.length+1+1+1+1)) 1 0 0]))] 1])):=fun R0 ca hca=>by
   have hpre:AV.plainL (I 0::(reC kid++[I 0,I 0]))=true:=by simp[AV.plainL,AV.plain,plainL_append,plain_reC]
   refine fz_two (H1:=srH A t fuel (stepS fuel s) s.ends.length (K++[R0,.row 12 [.agg ca] 0,.row 12 [.agg (I 0::(reC kid++[I 0,I 0]++[.rf (A.length+(K.length+1+1+1+1)) 1 0 0]))] 1])) (pre:=I 0::(reC kid++[I 0,I 0])) (a:=A.length+(K.length+1+1+1+1)) ?_ ?_ ?_ ?_ hpre hca
   ·unfold getRow;rw[sr_get2];rfl
   ·unfold mark getRow;rw[sr_get2];simp only[sr_set2];rfl
   ·unfold getRow;rw[sr_get1]
   ·unfold mark getRow;rw[sr_get1];simp only[sr_set1];rfl
  have plain_c2:AV.plainL [I 2,I 4,.sl false (set.map spanAV),.sl false [reAV kid],I mn,I mx,I md,I n,.bool neg,I k,I i,goalA next]=true:=by
   have hq:=plain_goalC 2 (.mk 4 set [kid] mn mx md n neg) k i next
   rw[goalC,reC_mk]at hq
   exact hq
  have hGo:goalA (.mk 0 kid 0 0 (.mk 2 (.mk 4 set [kid] mn mx md n neg) k i next))=.pt (I 0::(reC kid++[I 0,I 0]++[.pt [I 2,I 4,.sl false (set.map spanAV),.sl false [reAV kid],I mn,I mx,I md,I n,.bool neg,I k,I i,goalA next]])):=by
   simp only[goalA,reC_mk,List.append_assoc,List.cons_append,List.nil_append,List.map_cons,List.map_nil]
  have hO:∀(K':List MB) (s2:SS) (b:Bool) (s':SS),(stepS fuel s).steps≤s2.steps→SPre fuel s2→R (.mk 0 kid 0 0 (.mk 2 (.mk 4 set [kid] mn mx md n neg) k i next)) i c s2=some (b,s') →
    call Tryz.prog pol1 97 [.rf A.length 1 0 0,.pt (I 0::(reC kid++[I 0,I 0]++[.pt [I 2,I 4,.sl false (set.map spanAV),.sl false [reAV kid],I mn,I mx,I md,I n,.bool neg,I k,I i,goalA next]])),I i,capA c] (srH A t fuel s2 s2.ends.length K') =
     some (.bool b,srH A t fuel s' s'.ends.length K'):=fun K' s2 b s' h1 h2 e=>by
   have:=hR A K' _ i c s2 b s' (hon.mono h1) hi.1 hi.2 hc h2 e
   rwa [hGo]at this
  have hN:∀(K':List MB) (s2:SS) (b:Bool) (s':SS),(stepS fuel s).steps≤s2.steps→SPre fuel s2→R next i c s2=some (b,s') →
    call Tryz.prog pol1 97 [.rf A.length 1 0 0,goalA next,I i,capA c] (srH A t fuel s2 s2.ends.length K')=some (.bool b,srH A t fuel s' s'.ends.length K'):=fun K' s2 b s' h1 h2 e=>
   hR A K' _ i c s2 b s' (hn1.mono h1) hi.1 hi.2 hc h2 e
  have pO:=fun(b:Bool) (s':SS) e=>hP _ i c _ b s' hon hi.1 hi.2 hc p1 e
  have pN:=fun(b:Bool) (s':SS) e=>hP _ i c _ b s' hn1 hi.1 hi.2 hc p1 e
  have hmx:mx = -1∨(mx≠-1∧k < mx)∨(mx≠-1∧¬ k < mx):=by omega
  by_cases hkm:k < mn
  ·rw[if_pos hkm]at he
   have c1:=fun K'=>hO K' _ b s' (Int.le_refl _) p1 he
   rw[show (stepS fuel s).ends.length=s.ends.length from rfl]at c1
   rcases hmx with hmx|hmx|hmx
   ·simp +contextual (disch:=omega) only[Tryz.f131,dd131,go_sem,simprocAttr,mu131,↓wrap_up,↓wrap_down,↓wrap_pred,↓wrap_sub_nat,h161,hmd,sr_cat,sr_get,sr_set,Bool.not_false,hl8,ht8,hok8,cl_agg,cl_int,cl_bool,cl_sl,cl_rf,cl_pt,cl_nilp,cl_goal,ok_goal,re_take,re_drop,List.all_append,sr_get1,sr_set1,sr_same,hka,hfz,plain_c2,c1]
    repeat' (first|apply And.intro|(unfold dOk;kernel_rfl)|exact ok_goal next|(show (_ && _)=true;kernel_rfl)|(show (_ || _)=true;kernel_rfl)|intro _)
    all_goals exact ret _ _ _ _
   ·simp +contextual (disch:=omega) only[Tryz.f131,dd131,go_sem,simprocAttr,mu131,↓wrap_up,↓wrap_down,↓wrap_pred,↓wrap_sub_nat,h161,hmd,sr_cat,sr_get,sr_set,Bool.not_false,hl8,ht8,hok8,cl_agg,cl_int,cl_bool,cl_sl,cl_rf,cl_pt,cl_nilp,cl_goal,ok_goal,re_take,re_drop,List.all_append,sr_get1,sr_set1,sr_same,hka,hfz,plain_c2,c1]
    repeat' (first|apply And.intro|(unfold dOk;kernel_rfl)|exact ok_goal next|(show (_ && _)=true;kernel_rfl)|(show (_ || _)=true;kernel_rfl)|intro _)
    all_goals exact ret _ _ _ _
   ·simp +contextual (disch:=omega) only[Tryz.f131,dd131,go_sem,simprocAttr,mu131,↓wrap_up,↓wrap_down,↓wrap_pred,↓wrap_sub_nat,h161,hmd,sr_cat,sr_get,sr_set,Bool.not_false,hl8,ht8,hok8,cl_agg,cl_int,cl_bool,cl_sl,cl_rf,cl_pt,cl_nilp,cl_goal,ok_goal,re_take,re_drop,List.all_append,sr_get1,sr_set1,sr_same,hka,hfz,plain_c2,c1]
    repeat' (first|apply And.intro|(unfold dOk;kernel_rfl)|exact ok_goal next|(show (_ && _)=true;kernel_rfl)|(show (_ || _)=true;kernel_rfl)|intro _)
    all_goals exact ret _ _ _ _
  ·rw[if_neg hkm]at he
   by_cases hlz:md=1
   ·subst hlz
    rw[if_pos rfl]at he
    unfold orR at he
    split at he
    ·cases he
    ·rename_i s2 e2
     simp only[Option.some.injEq,Prod.mk.injEq]at he
     obtain⟨rfl,rfl⟩:=he
     have c1:=fun K'=>hN K' _ true _ (Int.le_refl _) p1 e2
     rw[show (stepS fuel s).ends.length=s.ends.length from rfl]at c1
     rcases hmx with hmx|hmx|hmx
     ·simp +contextual (disch:=omega) only[Tryz.f131,dd131,go_sem,simprocAttr,mu131,↓wrap_up,↓wrap_down,↓wrap_pred,↓wrap_sub_nat,h161,hmd,sr_cat,sr_get,sr_set,Bool.not_false,hl8,ht8,hok8,cl_agg,cl_int,cl_bool,cl_sl,cl_rf,cl_pt,cl_nilp,cl_goal,ok_goal,re_take,re_drop,List.all_append,sr_get1,sr_set1,sr_same,hka,hfz,plain_c2,c1]
      repeat' (first|apply And.intro|(unfold dOk;kernel_rfl)|exact ok_goal next|(show (_ && _)=true;kernel_rfl)|(show (_ || _)=true;kernel_rfl)|intro _)
      all_goals exact ret _ _ _ _
     ·simp +contextual (disch:=omega) only[Tryz.f131,dd131,go_sem,simprocAttr,mu131,↓wrap_up,↓wrap_down,↓wrap_pred,↓wrap_sub_nat,h161,hmd,sr_cat,sr_get,sr_set,Bool.not_false,hl8,ht8,hok8,cl_agg,cl_int,cl_bool,cl_sl,cl_rf,cl_pt,cl_nilp,cl_goal,ok_goal,re_take,re_drop,List.all_append,sr_get1,sr_set1,sr_same,hka,hfz,plain_c2,c1]
      repeat' (first|apply And.intro|(unfold dOk;kernel_rfl)|exact ok_goal next|(show (_ && _)=true;kernel_rfl)|(show (_ || _)=true;kernel_rfl)|intro _)
      all_goals exact ret _ _ _ _
     ·simp +contextual (disch:=omega) only[Tryz.f131,dd131,go_sem,simprocAttr,mu131,↓wrap_up,↓wrap_down,↓wrap_pred,↓wrap_sub_nat,h161,hmd,sr_cat,sr_get,sr_set,Bool.not_false,hl8,ht8,hok8,cl_agg,cl_int,cl_bool,cl_sl,cl_rf,cl_pt,cl_nilp,cl_goal,ok_goal,re_take,re_drop,List.all_append,sr_get1,sr_set1,sr_same,hka,hfz,plain_c2,c1]
      repeat' (first|apply And.intro|(unfold dOk;kernel_rfl)|exact ok_goal next|(show (_ && _)=true;kernel_rfl)|(show (_ || _)=true;kernel_rfl)|intro _)
      all_goals exact ret _ _ _ _
    ·rename_i s2 e2
     simp only at he
     have c1:=fun K'=>hN K' _ false s2 (Int.le_refl _) p1 e2
     rw[show (stepS fuel s).ends.length=s.ends.length from rfl]at c1
     have q2:=pN _ _ e2
     have p3:=q2.pre p1 p2
     rcases hmx with hmx|hmx|hmx
     ·rw[if_pos (by simp[hmx])]at he
      have c2:=fun K'=>hO K' _ b s' q2.st p3 he
      simp +contextual (disch:=omega) only[Tryz.f131,dd131,go_sem,simprocAttr,mu131,↓wrap_up,↓wrap_down,↓wrap_pred,↓wrap_sub_nat,h161,hmd,sr_cat,sr_get,sr_set,Bool.not_false,hl8,ht8,hok8,cl_agg,cl_int,cl_bool,cl_sl,cl_rf,cl_pt,cl_nilp,cl_goal,ok_goal,re_take,re_drop,List.all_append,sr_get1,sr_set1,sr_same,hka,hfz,plain_c2,c1,c2]
      repeat' (first|apply And.intro|(unfold dOk;kernel_rfl)|exact ok_goal next|(show (_ && _)=true;kernel_rfl)|(show (_ || _)=true;kernel_rfl)|intro _)
      all_goals exact ret _ _ _ _
     ·rw[if_pos (by simp[hmx])]at he
      have c2:=fun K'=>hO K' _ b s' q2.st p3 he
      simp +contextual (disch:=omega) only[Tryz.f131,dd131,go_sem,simprocAttr,mu131,↓wrap_up,↓wrap_down,↓wrap_pred,↓wrap_sub_nat,h161,hmd,sr_cat,sr_get,sr_set,Bool.not_false,hl8,ht8,hok8,cl_agg,cl_int,cl_bool,cl_sl,cl_rf,cl_pt,cl_nilp,cl_goal,ok_goal,re_take,re_drop,List.all_append,sr_get1,sr_set1,sr_same,hka,hfz,plain_c2,c1,c2]
      repeat' (first|apply And.intro|(unfold dOk;kernel_rfl)|exact ok_goal next|(show (_ && _)=true;kernel_rfl)|(show (_ || _)=true;kernel_rfl)|intro _)
      all_goals exact ret _ _ _ _
     ·rw[if_neg (by simp[hmx])]at he
      simp only[Option.some.injEq,Prod.mk.injEq]at he
      obtain⟨rfl,rfl⟩:=he
      simp +contextual (disch:=omega) only[Tryz.f131,dd131,go_sem,simprocAttr,mu131,↓wrap_up,↓wrap_down,↓wrap_pred,↓wrap_sub_nat,h161,hmd,sr_cat,sr_get,sr_set,Bool.not_false,hl8,ht8,hok8,cl_agg,cl_int,cl_bool,cl_sl,cl_rf,cl_pt,cl_nilp,cl_goal,ok_goal,re_take,re_drop,List.all_append,sr_get1,sr_set1,sr_same,hka,hfz,plain_c2,c1]
      repeat' (first|apply And.intro|(unfold dOk;kernel_rfl)|exact ok_goal next|(show (_ && _)=true;kernel_rfl)|(show (_ || _)=true;kernel_rfl)|intro _)
      all_goals exact ret _ _ _ _
   ·rw[if_neg hlz]at he
    unfold orR at he
    rcases hmx with hmx|hmx|hmx
    ·rw[if_pos (by simp[hmx])]at he
     split at he
     ·cases he
     ·rename_i s2 e2
      simp only[Option.some.injEq,Prod.mk.injEq]at he
      obtain⟨rfl,rfl⟩:=he
      have c1:=fun K'=>hO K' _ true _ (Int.le_refl _) p1 e2
      rw[show (stepS fuel s).ends.length=s.ends.length from rfl]at c1
      simp +contextual (disch:=omega) only[Tryz.f131,dd131,go_sem,simprocAttr,mu131,↓wrap_up,↓wrap_down,↓wrap_pred,↓wrap_sub_nat,h161,hmd,sr_cat,sr_get,sr_set,Bool.not_false,hl8,ht8,hok8,cl_agg,cl_int,cl_bool,cl_sl,cl_rf,cl_pt,cl_nilp,cl_goal,ok_goal,re_take,re_drop,List.all_append,sr_get1,sr_set1,sr_same,hka,hfz,plain_c2,c1]
      repeat' (first|apply And.intro|(unfold dOk;kernel_rfl)|exact ok_goal next|(show (_ && _)=true;kernel_rfl)|(show (_ || _)=true;kernel_rfl)|intro _)
      all_goals exact ret _ _ _ _
     ·rename_i s2 e2
      have c1:=fun K'=>hO K' _ false s2 (Int.le_refl _) p1 e2
      rw[show (stepS fuel s).ends.length=s.ends.length from rfl]at c1
      have q2:=pO _ _ e2
      have p3:=q2.pre p1 p2
      have c2:=fun K'=>hN K' _ b s' q2.st p3 he
      simp +contextual (disch:=omega) only[Tryz.f131,dd131,go_sem,simprocAttr,mu131,↓wrap_up,↓wrap_down,↓wrap_pred,↓wrap_sub_nat,h161,hmd,sr_cat,sr_get,sr_set,Bool.not_false,hl8,ht8,hok8,cl_agg,cl_int,cl_bool,cl_sl,cl_rf,cl_pt,cl_nilp,cl_goal,ok_goal,re_take,re_drop,List.all_append,sr_get1,sr_set1,sr_same,hka,hfz,plain_c2,c1,c2]
      repeat' (first|apply And.intro|(unfold dOk;kernel_rfl)|exact ok_goal next|(show (_ && _)=true;kernel_rfl)|(show (_ || _)=true;kernel_rfl)|intro _)
      all_goals exact ret _ _ _ _
    ·rw[if_pos (by simp[hmx])]at he
     split at he
     ·cases he
     ·rename_i s2 e2
      simp only[Option.some.injEq,Prod.mk.injEq]at he
      obtain⟨rfl,rfl⟩:=he
      have c1:=fun K'=>hO K' _ true _ (Int.le_refl _) p1 e2
      rw[show (stepS fuel s).ends.length=s.ends.length from rfl]at c1
      simp +contextual (disch:=omega) only[Tryz.f131,dd131,go_sem,simprocAttr,mu131,↓wrap_up,↓wrap_down,↓wrap_pred,↓wrap_sub_nat,h161,hmd,sr_cat,sr_get,sr_set,Bool.not_false,hl8,ht8,hok8,cl_agg,cl_int,cl_bool,cl_sl,cl_rf,cl_pt,cl_nilp,cl_goal,ok_goal,re_take,re_drop,List.all_append,sr_get1,sr_set1,sr_same,hka,hfz,plain_c2,c1]
      repeat' (first|apply And.intro|(unfold dOk;kernel_rfl)|exact ok_goal next|(show (_ && _)=true;kernel_rfl)|(show (_ || _)=true;kernel_rfl)|intro _)
      all_goals exact ret _ _ _ _
     ·rename_i s2 e2
      have c1:=fun K'=>hO K' _ false s2 (Int.le_refl _) p1 e2
      rw[show (stepS fuel s).ends.length=s.ends.length from rfl]at c1
      have q2:=pO _ _ e2
      have p3:=q2.pre p1 p2
      have c2:=fun K'=>hN K' _ b s' q2.st p3 he
      simp +contextual (disch:=omega) only[Tryz.f131,dd131,go_sem,simprocAttr,mu131,↓wrap_up,↓wrap_down,↓wrap_pred,↓wrap_sub_nat,h161,hmd,sr_cat,sr_get,sr_set,Bool.not_false,hl8,ht8,hok8,cl_agg,cl_int,cl_bool,cl_sl,cl_rf,cl_pt,cl_nilp,cl_goal,ok_goal,re_take,re_drop,List.all_append,sr_get1,sr_set1,sr_same,hka,hfz,plain_c2,c1,c2]
      repeat' (first|apply And.intro|(unfold dOk;kernel_rfl)|exact ok_goal next|(show (_ && _)=true;kernel_rfl)|(show (_ || _)=true;kernel_rfl)|intro _)
      all_goals exact ret _ _ _ _
    ·rw[if_neg (by simp[hmx])]at he
     simp only at he
     have c1:=fun K'=>hN K' _ b s' (Int.le_refl _) p1 he
     rw[show (stepS fuel s).ends.length=s.ends.length from rfl]at c1
     simp +contextual (disch:=omega) only[Tryz.f131,dd131,go_sem,simprocAttr,mu131,↓wrap_up,↓wrap_down,↓wrap_pred,↓wrap_sub_nat,h161,hmd,sr_cat,sr_get,sr_set,Bool.not_false,hl8,ht8,hok8,cl_agg,cl_int,cl_bool,cl_sl,cl_rf,cl_pt,cl_nilp,cl_goal,ok_goal,re_take,re_drop,List.all_append,sr_get1,sr_set1,sr_same,hka,hfz,plain_c2,c1]
     repeat' (first|apply And.intro|(unfold dOk;kernel_rfl)|exact ok_goal next|(show (_ && _)=true;kernel_rfl)|(show (_ || _)=true;kernel_rfl)|intro _)
     all_goals exact ret _ _ _ _
end
section
attribute [local go_sem] evAppend List.map_append
open Go.Proofs Go.RowKit Go.IntWalk
set_option maxRecDepth 100000
set_option maxHeartbeats 8000000
theorem box_call {f:Nat} (hpu:pol1.pure f=false) (hex:pol1.ext f=none) (h0:pol1.byref f 0=true) (h1:pol1.byref f 1=false) (h2:pol1.byref f 2=false) (h3:pol1.byref f 3=false)
  (A K:List MB) (X:MB) (t:List Int) (fuel:Int) (s:SS) (e:Nat) (cells:List AV) (i:Int) (c:Caps) (hp:AV.plainL cells=true) :
  call Tryz.prog pol1 f [.rf A.length 1 0 0,.rf (A.length+(K.length+1+1+1+1)) 1 0 0,I i,capA c] (srH A t fuel s e (K++[X,.row 12 [.agg cells] 0])) =
   call Tryz.prog pol1 f [.rf A.length 1 0 0,.pt cells,I i,capA c] (srH A t fuel s e (K++[X,.row 12 [.agg cells] 1])):=by
 refine call_frzN hpu hex ?_ (frzArgs_mix _ _ _ (by simp[mixOk,h0,AV.plain,hp,plain_span]))
 have hz:=fz_rf (id:=A.length+(K.length+1+1+1+1)) (tot:=1) (i:=0) (j:=0) (k:=12) (z:=0) (H:=srH A t fuel s e (K++[X,.row 12 [.agg cells] 0])) (els:=[.agg cells]) (x:=.agg cells) (by unfold getRow;rw[sr_get1]) rfl rfl hp
 have hm:mark (srH A t fuel s e (K++[X,.row 12 [.agg cells] 0])) (A.length+(K.length+1+1+1+1)) (0+1)=srH A t fuel s e (K++[X,.row 12 [.agg cells] 1]):=by
  unfold mark getRow
  rw[sr_get1]
  simp only[sr_set1]
  rfl
 rw[hm]at hz
 have hc:∀ H,fz (capA c) H=some (capA c,H):=fun H=>fz_plain H (by simp[AV.plain,plain_span])
 have hi:∀ H,fz (I i) H=some (I i,H):=fun H=>rfl
 simp only[frzArgs,h0,h1,h2,h3,Bool.false_eq_true,if_false,if_true,hz,hc,hi]
 rfl
theorem set_len {caps top:Int} {set:List (Int×Int)} {kids:List Re} {mn mx md n:Int} {neg:Bool} (h:wholeG caps top (.mk 1 set kids mn mx md n neg)=true):set.length≤64:=by
 rw[wholeG,Bool.and_eq_true]at h
 have h1:=h.1
 simp only[formedG,Bool.and_eq_true]at h1
 have h2:=h1.1.1.1.2
 rw[if_pos trivial]at h2
 simp only[spansG,Bool.and_eq_true,decide_eq_true_eq]at h2
 exact h2.1
theorem assert_n {caps top:Int} {set:List (Int×Int)} {kids:List Re} {mn mx md n:Int} {neg:Bool} (h:wholeG caps top (.mk 11 set kids mn mx md n neg)=true):0≤n∧n≤5:=by
 rw[wholeG,Bool.and_eq_true]at h
 have h1:=h.1
 simp only[formedG,Bool.and_eq_true]at h1
 have h2:=h1.1.2
 rw[if_neg (by omega),if_pos trivial,Bool.and_eq_true,decide_eq_true_eq,decide_eq_true_eq]at h2
 exact h2
theorem fz_last (A K:List MB) (X:MB) (L:List MB) (t:List Int) (fuel:Int) (s:SS) (e:Nat) (cells:List AV) (hp:AV.plainL cells=true) :
  fz (.rf (A.length+(K.length+(L.length+1)+1+1+1)) 1 0 0) (srH A t fuel s e (K++X::(L++[.row 12 [.agg cells] 0])))=some (.pt cells,srH A t fuel s e (K++X::(L++[.row 12 [.agg cells] 1]))):=by
 have hM:∀ v:MB,K++X::(L++[v])=(K++X::L)++v::[]:=fun v=>by simp
 have hl:K.length+(L.length+1)=(K++X::L).length:=by simp
 rw[hM,hM,hl]
 have hz:=fz_rf (id:=A.length+((K++X::L).length+1+1+1)) (tot:=1) (i:=0) (j:=0) (k:=12) (z:=0) (H:=srH A t fuel s e ((K++X::L)++.row 12 [.agg cells] 0::[])) (els:=[.agg cells]) (x:=.agg cells) (by unfold getRow;rw[sr_get]) rfl rfl hp
 have hm:mark (srH A t fuel s e ((K++X::L)++.row 12 [.agg cells] 0::[])) (A.length+((K++X::L).length+1+1+1)) (0+1)=srH A t fuel s e ((K++X::L)++.row 12 [.agg cells] 1::[]):=by
  unfold mark getRow
  rw[sr_get]
  simp only[sr_set]
  rfl
 rw[hm]at hz
 exact hz
theorem box2_138 (A K:List MB) (X:MB) (t:List Int) (fuel:Int) (s:SS) (e:Nat) (kid:Re) (ca:List AV) (i:Int) (c:Caps) (hca:AV.plainL ca=true) :
  call Tryz.prog pol1 97 [.rf A.length 1 0 0,.rf (A.length+(K.length+2+1+1+1)) 1 0 0,I i,capA c] (srH A t fuel s e (K++[X,.row 12 [.agg ca] 0,.row 12 [.agg (I 0::(reC kid++[I 0,I 0]++[.rf (A.length+(K.length+1+1+1+1)) 1 0 0]))] 0])) =
   call Tryz.prog pol1 97 [.rf A.length 1 0 0,.pt (I 0::(reC kid++[I 0,I 0]++[.pt ca])),I i,capA c] (srH A t fuel s e (K++[X,.row 12 [.agg ca] 1,.row 12 [.agg (I 0::(reC kid++[I 0,I 0]++[.rf (A.length+(K.length+1+1+1+1)) 1 0 0]))] 1])):=by
 have hpre:AV.plainL (I 0::(reC kid++[I 0,I 0]))=true:=by simp[AV.plainL,AV.plain,plainL_append,plain_reC]
 have hall:AV.plainL (I 0::(reC kid++[I 0,I 0]++[.pt ca]))=true:=by simp[AV.plainL,AV.plain,plainL_append,plain_reC,hca]
 have hz:=fz_two (H:=srH A t fuel s e (K++[X,.row 12 [.agg ca] 0,.row 12 [.agg (I 0::(reC kid++[I 0,I 0]++[.rf (A.length+(K.length+1+1+1+1)) 1 0 0]))] 0])) (H1:=srH A t fuel s e (K++[X,.row 12 [.agg ca] 0,.row 12 [.agg (I 0::(reC kid++[I 0,I 0]++[.rf (A.length+(K.length+1+1+1+1)) 1 0 0]))] 1]))
  (H2:=srH A t fuel s e (K++[X,.row 12 [.agg ca] 1,.row 12 [.agg (I 0::(reC kid++[I 0,I 0]++[.rf (A.length+(K.length+1+1+1+1)) 1 0 0]))] 1])) (pre:=I 0::(reC kid++[I 0,I 0])) (a:=A.length+(K.length+1+1+1+1)) (b:=A.length+(K.length+2+1+1+1)) (ca:=ca)
  (by unfold getRow;rw[sr_get2];rfl) (by unfold mark getRow;rw[sr_get2];simp only[sr_set2];rfl) (by unfold getRow;rw[sr_get1]) (by unfold mark getRow;rw[sr_get1];simp only[sr_set1];rfl) hpre hca
 have h0:pol1.byref 97 0=true:=rfl
 have h1:pol1.byref 97 1=false:=rfl
 have h2:pol1.byref 97 2=false:=rfl
 have h3:pol1.byref 97 3=false:=rfl
 refine call_frzN rfl rfl ?_ (frzArgs_mix _ _ _ (by simp[mixOk,h0,AV.plain,AV.plainL,plainL_append,plain_reC,hca,plain_span]))
 have hc:∀ H,fz (capA c) H=some (capA c,H):=fun H=>fz_plain H (by simp[AV.plain,plain_span])
 have hi:∀ H,fz (I i) H=some (I i,H):=fun H=>rfl
 simp only[frzArgs,h0,h1,h2,h3,Bool.false_eq_true,if_false,if_true,hz,hc,hi]
 rfl
theorem nodeR_mk {t:List Int} {fuel:Int} {R:RunT} {op:Int} {set:List (Int×Int)} {kids:List Re} {mn mx md n:Int} {neg:Bool} {next:Goal} {i:Int} {c:Caps} {s:SS} :
 nodeR t fuel R (.mk op set kids mn mx md n neg) next i c s =
  if op=4 then repR fuel R (.mk op set kids mn mx md n neg) 0 next i c s
  else if(stepS fuel s).empty=true then some (true,stepS fuel s)
  else if op=1 then
   (match t[i.toNat]? with
   | some x=>if hasSpan set x=true then R next (i+1) c (stepS fuel s) else some (false,stepS fuel s)
   | none=>some (false,stepS fuel s))
  else if op=2 then R (catG next kids) i c (stepS fuel s)
  else if op=3 then altR R next i c kids (stepS fuel s)
  else if op=5 then
   (match kids with
   | []=>none
   | kid::_=>R (.mk 0 kid 0 0 (.mk 3 (.mk op set kids mn mx md n neg) 0 i next)) i c (stepS fuel s))
  else if op=11 then(if assertI n (befS t i.toNat) t[i.toNat]?=true then R next i c (stepS fuel s) else some (false,stepS fuel s))
  else R next i c (stepS fuel s):=rfl
theorem f154 {caps top:Int} {t:List Int} {fuel:Int} (ht:t.length≤65536) (hf:0≤fuel∧fuel≤1000000) {R:RunT} (hP:RunP caps top t fuel R) (hR:Run138 caps top t fuel R)
  (A K:List MB) (kind:Int) (re:Re) (k fr:Int) (i:Nat) (next:Goal) (c:Caps) (s:SS) (b:Bool) (s':SS) (h:RGood caps top re) (hi:i≤t.length)
  (hn:GG caps top t.length s.steps next) (hc:c.length≤1000) (hs:SPre fuel s) (he:nodeR t fuel R re next i c s=some (b,s')) :
  call Tryz.prog pol1 133 [.rf A.length 1 0 0,.pt (goalC kind re k fr next),I i,capA c] (srH A t fuel s s.ends.length K)=some (.bool b,srH A t fuel s' s'.ends.length K):=by
 have h161:=fun K=>f161 A K t fuel s s.ends.length ⟨hs.st.1,by have:=hs.st;omega⟩
 have ret:=fun b s' e' L=>ret_sr (f:=133) rfl rfl b A K L t fuel s s' s.ends.length e'
 have hp8:=plain_goal next
 have hka:∀ L L':List MB,(K++L)++L' = K++(L++L'):=fun L L'=>List.append_assoc K L L'
 obtain⟨op,set,kids,mn,mx,md,n,neg⟩:=re
 have hgp:=plain_goalC kind (.mk op set kids mn mx md n neg) k fr next
 have hgp1:=plain_goalC 1 (.mk op set kids mn mx md n neg) 0 0 next
 have hG:∀ kind k fr next,goalC kind (.mk op set kids mn mx md n neg) k fr next=[I kind,I op,.sl false (set.map spanAV),.sl false (kids.map reAV),I mn,I mx,I md,I n,.bool neg,I k,I fr,goalA next]:=fun kind k fr next=>by
  rw[goalC,reC_mk];rfl
 rw[hG]at hgp hgp1 ⊢
 have fr':frzArgs pol1 133 0 [.rf A.length 1 0 0,.pt [I kind,I op,.sl false (set.map spanAV),.sl false (kids.map reAV),I mn,I mx,I md,I n,.bool neg,I k,I fr,goalA next],I i,capA c] (srH A t fuel s s.ends.length K)=some ([.rf A.length 1 0 0,.pt [I kind,I op,.sl false (set.map spanAV),.sl false (kids.map reAV),I mn,I mx,I md,I n,.bool neg,I k,I fr,goalA next],I i,capA c],srH A t fuel s s.ends.length K):=frzArgs_mix _ _ _ (by
  simp only[mixOk,show pol1.byref 133 0=true from rfl,AV.plain,hgp,plain_span,Bool.true_or,Bool.or_true,Bool.and_self,Bool.and_true];rfl)
 refine call_run2 (pol:=pol1) Tryz.func133 rfl rfl rfl rfl fr' ?_
 have hop:=h.good.op
 have hkl:=h.len
 simp only[Re.kids]at hkl
 have hst:(stepS fuel s).steps=s.steps+1:=rfl
 have hn1:=hn.mono (show s.steps≤(stepS fuel s).steps by omega)
 by_cases h4:op=4
 ·subst h4
  have he:repR fuel R (.mk 4 set kids mn mx md n neg) 0 next i c s=some (b,s'):=he
  have c1:=fun K'=>f152 ht hf hP hR A K' (.mk 4 set kids mn mx md n neg) 0 0 i next c s b s' h rfl ⟨Int.le_refl _,hs.st.1⟩ ⟨by omega,by omega⟩ hn hc hs he
  rw[hG]at c1
  have c2:=fun X=>(box_call (f:=131) rfl rfl rfl rfl rfl rfl A K X t fuel s s.ends.length _ i c hgp1).trans (c1 _)
  simp +contextual (disch:=omega) only[Tryz.f133,dd133,go_sem,simprocAttr,mu133,↓wrap_up,↓wrap_down,↓wrap_pred,↓wrap_sub_nat,c2,sr_cat,sr_get,sr_set,Bool.not_false,cl_agg,cl_int,cl_bool,cl_sl,cl_rf,cl_pt,cl_nilp,cl_goal,ok_goal,List.all_append,sr_get1,sr_set1,sr_same,hka]
  repeat' (first|apply And.intro|(unfold dOk;kernel_rfl)|exact ok_goal next|(show (_ && _)=true;kernel_rfl)|(show (_ || _)=true;kernel_rfl)|intro _)
  all_goals exact ret _ _ _ _
 ·rw[nodeR_mk,if_neg h4]at he
  by_cases h1:(stepS fuel s).empty=true
  ·rw[if_pos h1]at he
   simp only[Option.some.injEq,Prod.mk.injEq]at he
   obtain⟨rfl,rfl⟩:=he
   have h161:=fun K=>(h161 K).trans (by rw[h1])
   simp +contextual (disch:=omega) only[Tryz.f133,dd133,go_sem,simprocAttr,mu133,↓wrap_up,↓wrap_down,↓wrap_pred,↓wrap_sub_nat,h161,h4,sr_cat,sr_get,sr_set,Bool.not_false,cl_agg,cl_int,cl_bool,cl_sl,cl_rf,cl_pt,cl_nilp,cl_goal,ok_goal,List.all_append,sr_get1,sr_set1,sr_same,hka,pre_get]
   repeat' (first|apply And.intro|(unfold dOk;kernel_rfl)|exact ok_goal next|(show (_ && _)=true;kernel_rfl)|(show (_ || _)=true;kernel_rfl)|intro _)
   all_goals exact ret _ _ _ _
  rw[if_neg h1,Int.toNat_natCast]at he
  have h1':(stepS fuel s).empty=false:=by simpa using h1
  obtain⟨p1,p2⟩:=step_false hs h1'
  have h161:=fun K=>(h161 K).trans (by rw[h1'])
  have hN:∀(K':List MB) (j:Nat) (b:Bool) (s':SS),j≤t.length→R next j c (stepS fuel s)=some (b,s') →
    call Tryz.prog pol1 97 [.rf A.length 1 0 0,goalA next,I j,capA c] (srH A t fuel (stepS fuel s) s.ends.length K')=some (.bool b,srH A t fuel s' s'.ends.length K'):=fun K' j b s' h1 e=>
   hR A K' _ j c _ b s' hn1 (by omega) (by omega) hc p1 e
  rcases hop with rfl|rfl|rfl|rfl|rfl|rfl|rfl
  ·-- nothing
   rw[if_neg (by omega),if_neg (by omega),if_neg (by omega),if_neg (by omega),if_neg (by omega)]at he
   have c1:=fun K'=>hN K' i b s' hi he
   simp +contextual (disch:=omega) only[Tryz.f133,dd133,go_sem,simprocAttr,mu133,↓wrap_up,↓wrap_down,↓wrap_pred,↓wrap_sub_nat,h161,c1,sr_cat,sr_get,sr_set,Bool.not_false,cl_agg,cl_int,cl_bool,cl_sl,cl_rf,cl_pt,cl_nilp,cl_goal,ok_goal,List.all_append,sr_get1,sr_set1,sr_same,hka,pre_get]
   repeat' (first|apply And.intro|(unfold dOk;kernel_rfl)|exact ok_goal next|(show (_ && _)=true;kernel_rfl)|(show (_ || _)=true;kernel_rfl)|intro _)
   all_goals exact ret _ _ _ _
  ·-- a set
   rw[if_pos rfl]at he
   have hsl:set.length≤1000000:=by
    have h64:set.length≤64:=set_len h.good.whole
    omega
   by_cases hlt:i < t.length
   ·obtain⟨x,hx⟩:∃ x,t[i]?=some x:=⟨_,List.getElem?_eq_getElem hlt⟩
    rw[hx]at he
    simp only at he
    have h162:=f162 set x hsl
    cases hh:hasSpan set x with
    | true=>
      rw[hh,if_pos rfl,show (i:Int)+1=((i+1:Nat):Int) by omega]at he
      rw[hh]at h162
      have c1:=fun K'=>hN K' (i+1) b s' (by omega) he
      simp +contextual (disch:=omega) only[Tryz.f133,dd133,go_sem,simprocAttr,mu133,↓wrap_up,↓wrap_down,↓wrap_pred,↓wrap_sub_nat,h161,h162,hx,c1,sr_cat,sr_get,sr_set,Bool.not_false,cl_agg,cl_int,cl_bool,cl_sl,cl_rf,cl_pt,cl_nilp,cl_goal,ok_goal,List.all_append,sr_get1,sr_set1,sr_same,hka,pre_get]
      repeat' (first|apply And.intro|(unfold dOk;kernel_rfl)|exact ok_goal next|(show (_ && _)=true;kernel_rfl)|(show (_ || _)=true;kernel_rfl)|intro _)
      all_goals exact ret _ _ _ _
    | false=>
      rw[hh,if_neg Bool.false_ne_true]at he
      rw[hh]at h162
      simp only[Option.some.injEq,Prod.mk.injEq]at he
      obtain⟨rfl,rfl⟩:=he
      simp +contextual (disch:=omega) only[Tryz.f133,dd133,go_sem,simprocAttr,mu133,↓wrap_up,↓wrap_down,↓wrap_pred,↓wrap_sub_nat,h161,h162,hx,sr_cat,sr_get,sr_set,Bool.not_false,cl_agg,cl_int,cl_bool,cl_sl,cl_rf,cl_pt,cl_nilp,cl_goal,ok_goal,List.all_append,sr_get1,sr_set1,sr_same,hka,pre_get]
      repeat' (first|apply And.intro|(unfold dOk;kernel_rfl)|exact ok_goal next|(show (_ && _)=true;kernel_rfl)|(show (_ || _)=true;kernel_rfl)|intro _)
      all_goals exact ret _ _ _ _
   ·rw[List.getElem?_eq_none (by omega)]at he
    simp only[Option.some.injEq,Prod.mk.injEq]at he
    obtain⟨rfl,rfl⟩:=he
    simp +contextual (disch:=omega) only[Tryz.f133,dd133,go_sem,simprocAttr,mu133,↓wrap_up,↓wrap_down,↓wrap_pred,↓wrap_sub_nat,h161,sr_cat,sr_get,sr_set,Bool.not_false,cl_agg,cl_int,cl_bool,cl_sl,cl_rf,cl_pt,cl_nilp,cl_goal,ok_goal,List.all_append,sr_get1,sr_set1,sr_same,hka,pre_get]
    repeat' (first|apply And.intro|(unfold dOk;kernel_rfl)|exact ok_goal next|(show (_ && _)=true;kernel_rfl)|(show (_ || _)=true;kernel_rfl)|intro _)
    all_goals exact ret _ _ _ _
  ·-- one after the other
   rw[if_neg (by omega),if_pos rfl]at he
   have c1:=fun K'=>hR A K' (catG next kids) i c _ b s' (GG.cat (by omega) hn1 h.kids) (by omega) (by omega) hc p1 he
   rw[show (stepS fuel s).ends.length=s.ends.length from rfl]at c1
   obtain⟨X,hX⟩:∃ X:MB,X=.row 8 [.agg [I 2,.sl false (set.map spanAV),.sl false (kids.map reAV),I mn,I mx,I md,I n,.bool neg]] 0:=⟨_,rfl⟩
   simp +contextual (disch:=omega) only[Tryz.f133,dd133,go_sem,simprocAttr,mu133,↓wrap_up,↓wrap_down,↓wrap_pred,↓wrap_sub_nat,h161,sr_cat,sr_get,sr_set,Bool.not_false,cl_agg,cl_int,cl_bool,cl_sl,cl_rf,cl_pt,cl_nilp,cl_goal,ok_goal,List.all_append,sr_get1,sr_set1,sr_same,hka,pre_get]
   refine W_for (σ:=Nat×List MB) (M:=⟨some [11,10,9,3,2,0],none,[]⟩) rfl (fun x=>(⟨341,[(11,I ((x.1:Int) - 1)),(10,goalA (catG next (kids.drop x.1))),(9,.rf (A.length+(K.length+1+1+1)) 1 0 0),(3,capA c),(2,I i),(0,.rf A.length 1 0 0)],
    srH A t fuel (stepS fuel s) s.ends.length (K++.row 8 [.agg [I 2,.sl false (set.map spanAV),.sl false (kids.map reAV),I mn,I mx,I md,I n,.bool neg]] 0::x.2)⟩:St)) (fun x=>x.1≤kids.length) (fun x=>x.1) (kids.length,[]) ?_ (Nat.le_refl _) _ ?_
   ·rintro⟨j,L⟩ hj
    simp only at hj ⊢
    rcases j with _|m
    ·have hz0:((0:Nat):Int) - 1 = -1:=rfl
     rw[hz0,List.drop_zero]
     simp +contextual (disch:=omega) only[Tryz.f133,dd133,go_sem,simprocAttr,mu133,↓wrap_up,↓wrap_down,↓wrap_pred,↓wrap_sub_nat,h161,c1,sr_cat,sr_get,sr_set,Bool.not_false,cl_agg,cl_int,cl_bool,cl_sl,cl_rf,cl_pt,cl_nilp,cl_goal,ok_goal,List.all_append,sr_get1,sr_set1,sr_same,hka,pre_get]
     exact ret b s' _ _
    ·obtain⟨kid,hkid⟩:∃ k,kids[m]?=some k:=⟨_,List.getElem?_eq_getElem (by omega)⟩
     have hl8:=reC_len kid
     have ht8:=reC_take kid
     have hok8:=reC_ok kid
     have hm1:((m+1:Nat):Int) - 1=(m:Int):=by omega
     rw[hm1]
     have hcp:AV.plainL (I 0::(reC kid++[I 0,I 0]++[goalA (catG next (kids.drop (m+1)))]))=true:=by
      simp[AV.plainL,AV.plain,plainL_append,plain_reC,plain_goal]
     have hfz:=fun X=>fz_last A K X L t fuel (stepS fuel s) s.ends.length _ hcp
     simp +contextual (disch:=omega) only[Tryz.f133,dd133,go_sem,simprocAttr,mu133,↓wrap_up,↓wrap_down,↓wrap_pred,↓wrap_sub_nat,h161,hkid,hl8,ht8,hok8,re_take,re_drop,hfz,sr_cat,sr_get,sr_set,Bool.not_false,cl_agg,cl_int,cl_bool,cl_sl,cl_rf,cl_pt,cl_nilp,cl_goal,ok_goal,List.all_append,sr_get1,sr_set1,sr_same,hka,pre_get]
     refine⟨ok_goal _,ok_goal _,(m,L++[.row 12 [.agg (I 0::(reC kid++[I 0,I 0]++[goalA (catG next (kids.drop (m+1)))]))] 1]),by show m≤_;omega,Nat.lt_succ_self _,?_⟩
     have hgm:goalA (catG next (kids.drop m))=.pt (I 0::(reC kid++[I 0,I 0]++[goalA (catG next (kids.drop (m+1)))])):=by
      rw[List.drop_eq_getElem_cons (by omega),(List.getElem?_eq_some_iff.1 hkid).2]
      simp[catG,goalA]
     simp only[hgm]
     rfl
   ·simp only[List.drop_length,catG]
    rfl
  ·-- one of some
   rw[if_neg (by omega),if_neg (by omega),if_pos rfl]at he
   simp +contextual (disch:=omega) only[Tryz.f133,dd133,go_sem,simprocAttr,mu133,↓wrap_up,↓wrap_down,↓wrap_pred,↓wrap_sub_nat,h161,sr_cat,sr_get,sr_set,Bool.not_false,cl_agg,cl_int,cl_bool,cl_sl,cl_rf,cl_pt,cl_nilp,cl_goal,ok_goal,List.all_append,sr_get1,sr_set1,sr_same,hka,pre_get]
   refine W_for (σ:=Nat×List MB×SS) (M:=⟨some [12,9,3,2,1,0],none,[]⟩) rfl (fun x=>(⟨341,[(12,I (x.1:Nat)),(9,.rf (A.length+(K.length+1+1+1)) 1 0 0),(3,capA c),(2,I i),(1,.pt [I kind,I 3,.sl false (set.map spanAV),.sl false (kids.map reAV),I mn,I mx,I md,I n,.bool neg,I k,I fr,goalA next]),(0,.rf A.length 1 0 0)],
    srH A t fuel x.2.2 x.2.2.ends.length (K++.row 8 [.agg [I 3,.sl false (set.map spanAV),.sl false (kids.map reAV),I mn,I mx,I md,I n,.bool neg]] 0::x.2.1)⟩:St))
    (fun x=>x.1≤kids.length∧altR R next i c (kids.drop x.1) x.2.2=some (b,s')∧SPre fuel x.2.2∧(stepS fuel s).steps≤x.2.2.steps∧(x.2.2.ends.length:Int)+((kids.length - x.1:Nat):Int)≤256 * x.2.2.steps) (fun x=>kids.length - x.1) (0,[],stepS fuel s) ?_
    ⟨Nat.zero_le _,he,p1,Int.le_refl _,by simp only;omega⟩ _ ?_
   ·rintro⟨j,L,s1⟩ ⟨hj,he,q1,q2,q3⟩
    simp only at hj he q1 q2 q3 ⊢
    by_cases hjl:j < kids.length
    ·obtain⟨kid,hkid⟩:∃ k,kids[j]?=some k:=⟨_,List.getElem?_eq_getElem hjl⟩
     have hl8:=reC_len kid
     have ht8:=reC_take kid
     have hok8:=reC_ok kid
     have hcp:AV.plainL (I 0::(reC kid++[I 0,I 0]++[goalA next]))=true:=by
      simp[AV.plainL,AV.plain,plainL_append,plain_reC,plain_goal]
     have hgm:goalA (.mk 0 kid 0 0 next)=.pt (I 0::(reC kid++[I 0,I 0]++[goalA next])):=by
      simp[goalA]
     have hgk:=h.kids kid (List.mem_of_getElem? hkid)
     rw[List.drop_eq_getElem_cons hjl,(List.getElem?_eq_some_iff.1 hkid).2,altR]at he
     have hgg:GG caps top t.length s1.steps (.mk 0 kid 0 0 next):=⟨hgk,.inl rfl,⟨Int.le_refl _,by omega⟩,hn1.mono q2⟩
     have hbox:=fun(X:MB) b' s2 e2=>(box138 A (K++X::L) t fuel s1 s1.ends.length _ i c hcp).trans ((hgm ▸ hR A ((K++X::L)++[MB.row 12 [.agg (I 0::(reC kid++[I 0,I 0]++[goalA next]))] 1]) (.mk 0 kid 0 0 next) i c s1 b' s2 hgg (by omega) (by omega) hc q1 e2))
     have hka2:∀(X Y:MB),(K++X::L)++[Y]=K++X::(L++[Y]):=fun X Y=>by simp
     simp only[hka2,List.length_append,List.length_cons]at hbox
     unfold orR at he
     split at he
     ·cases he
     ·rename_i s2 e2
      simp only[Option.some.injEq,Prod.mk.injEq]at he
      obtain⟨rfl,rfl⟩:=he
      have c1:=fun X=>hbox X _ _ e2
      simp +contextual (disch:=omega) only[Tryz.f133,dd133,go_sem,simprocAttr,mu133,↓wrap_up,↓wrap_down,↓wrap_pred,↓wrap_sub_nat,h161,hkid,hl8,ht8,hok8,re_take,re_drop,c1,sr_cat,sr_get,sr_set,Bool.not_false,cl_agg,cl_int,cl_bool,cl_sl,cl_rf,cl_pt,cl_nilp,cl_goal,ok_goal,List.all_append,sr_get1,sr_set1,sr_same,hka,pre_get]
      repeat' (first|apply And.intro|(unfold dOk;kernel_rfl)|exact ok_goal next|(show (_ && _)=true;kernel_rfl)|(show (_ || _)=true;kernel_rfl)|intro _)
      all_goals exact ret _ _ _ _
     ·rename_i s2 e2
      have c1:=fun X=>hbox X _ _ e2
      have q:=hP _ _ _ _ _ _ hgg (by omega) (by omega) hc q1 e2
      simp +contextual (disch:=omega) only[Tryz.f133,dd133,go_sem,simprocAttr,mu133,↓wrap_up,↓wrap_down,↓wrap_pred,↓wrap_sub_nat,h161,hkid,hl8,ht8,hok8,re_take,re_drop,c1,sr_cat,sr_get,sr_set,Bool.not_false,cl_agg,cl_int,cl_bool,cl_sl,cl_rf,cl_pt,cl_nilp,cl_goal,ok_goal,List.all_append,sr_get1,sr_set1,sr_same,hka,pre_get]
      repeat' (first|apply And.intro|(unfold dOk;kernel_rfl)|exact ok_goal next|(show (_ && _)=true;kernel_rfl)|(show (_ || _)=true;kernel_rfl)|intro _)
      have qa:=q.el
      have qb:=q.st
      have qc:=q.fu rfl
      have qd:=q1.st
      have rp:SPre fuel s2:=⟨q.eb.symm,⟨by omega,qc⟩,q.cl,by omega⟩
      have r1:(stepS fuel s).steps≤s2.steps:=by omega
      have r2:(s2.ends.length:Int)+((kids.length - (j+1):Nat):Int)≤256 * s2.steps:=by omega
      refine⟨(j+1,L++[MB.row 12 [.agg (I 0::(reC kid++[I 0,I 0]++[goalA next]))] 1],s2),⟨hjl,he,rp,r1,r2⟩,by show kids.length - (j+1) < _;omega,?_⟩
      rfl
    ·obtain rfl:j=kids.length:=by omega
     rw[List.drop_length,altR]at he
     simp only[Option.some.injEq,Prod.mk.injEq]at he
     obtain⟨rfl,rfl⟩:=he
     simp +contextual (disch:=omega) only[Tryz.f133,dd133,go_sem,simprocAttr,mu133,↓wrap_up,↓wrap_down,↓wrap_pred,↓wrap_sub_nat,h161,sr_cat,sr_get,sr_set,Bool.not_false,cl_agg,cl_int,cl_bool,cl_sl,cl_rf,cl_pt,cl_nilp,cl_goal,ok_goal,List.all_append,sr_get1,sr_set1,sr_same,hka,pre_get]
     exact ret false _ _ _
   ·rfl
  ·exact absurd rfl h4
  ·-- a capture
   rw[if_neg (by omega),if_neg (by omega),if_neg (by omega),if_pos rfl]at he
   obtain⟨kid,hkid,hgk⟩:=cap_kid h rfl
   simp only[Re.kids]at hkid
   subst hkid
   simp only at he
   have hl8:=reC_len kid
   have ht8:=reC_take kid
   have hok8:=reC_ok kid
   have hca:=plain_goalC 3 (.mk 5 set [kid] mn mx md n neg) 0 i next
   rw[hG]at hca
   have hgm:goalA (.mk 0 kid 0 0 (.mk 3 (.mk 5 set [kid] mn mx md n neg) 0 i next))=.pt (I 0::(reC kid++[I 0,I 0]++[.pt [I 3,I 5,.sl false (set.map spanAV),.sl false ([kid].map reAV),I mn,I mx,I md,I n,.bool neg,I 0,I i,goalA next]])):=by
    simp[goalA,reC_mk]
   have hgg:GG caps top t.length (stepS fuel s).steps (.mk 0 kid 0 0 (.mk 3 (.mk 5 set [kid] mn mx md n neg) 0 i next)):=⟨hgk,.inl rfl,⟨Int.le_refl _,by omega⟩,h,.inr (.inr (.inr ⟨rfl,rfl⟩)),⟨by omega,by omega⟩,hn1⟩
   have c1:=fun X=>(box2_138 A K X t fuel (stepS fuel s) s.ends.length kid _ i c hca).trans (hgm ▸ hR A _ _ i c _ b s' hgg (by omega) (by omega) hc p1 he)
   simp only[List.map_cons,List.map_nil]at c1
   simp +contextual (disch:=omega) only[Tryz.f133,dd133,go_sem,simprocAttr,mu133,↓wrap_up,↓wrap_down,↓wrap_pred,↓wrap_sub_nat,h161,c1,hl8,ht8,hok8,re_take,re_drop,sr_cat,sr_get,sr_set,Bool.not_false,cl_agg,cl_int,cl_bool,cl_sl,cl_rf,cl_pt,cl_nilp,cl_goal,ok_goal,List.all_append,sr_get1,sr_set1,sr_same,hka,pre_get]
   repeat' (first|apply And.intro|(unfold dOk;kernel_rfl)|exact ok_goal next|(show (_ && _)=true;kernel_rfl)|(show (_ || _)=true;kernel_rfl)|intro _)
   all_goals exact ret _ _ _ _
  ·-- an assertion
   rw[if_neg (by omega),if_neg (by omega),if_neg (by omega),if_neg (by omega),if_pos rfl]at he
   have hnn:=assert_n h.good.whole
   have h165:=f165 n t i hnn hi (by omega)
   cases hh:assertI n (befS t i) t[i]? with
   | true=>
     rw[hh,if_pos rfl]at he
     rw[hh]at h165
     have c1:=fun K'=>hN K' i b s' hi he
     simp +contextual (disch:=omega) only[Tryz.f133,dd133,go_sem,simprocAttr,mu133,↓wrap_up,↓wrap_down,↓wrap_pred,↓wrap_sub_nat,h161,h165,c1,sr_cat,sr_get,sr_set,Bool.not_false,cl_agg,cl_int,cl_bool,cl_sl,cl_rf,cl_pt,cl_nilp,cl_goal,ok_goal,List.all_append,sr_get1,sr_set1,sr_same,hka,pre_get]
     repeat' (first|apply And.intro|(unfold dOk;kernel_rfl)|exact ok_goal next|(show (_ && _)=true;kernel_rfl)|(show (_ || _)=true;kernel_rfl)|intro _)
     all_goals exact ret _ _ _ _
   | false=>
     rw[hh,if_neg Bool.false_ne_true]at he
     rw[hh]at h165
     simp only[Option.some.injEq,Prod.mk.injEq]at he
     obtain⟨rfl,rfl⟩:=he
     simp +contextual (disch:=omega) only[Tryz.f133,dd133,go_sem,simprocAttr,mu133,↓wrap_up,↓wrap_down,↓wrap_pred,↓wrap_sub_nat,h161,h165,sr_cat,sr_get,sr_set,Bool.not_false,cl_agg,cl_int,cl_bool,cl_sl,cl_rf,cl_pt,cl_nilp,cl_goal,ok_goal,List.all_append,sr_get1,sr_set1,sr_same,hka,pre_get]
     repeat' (first|apply And.intro|(unfold dOk;kernel_rfl)|exact ok_goal next|(show (_ && _)=true;kernel_rfl)|(show (_ || _)=true;kernel_rfl)|intro _)
     all_goals exact ret _ _ _ _
end
section
open Go.Proofs Go.RowKit Go.IntWalk
set_option maxRecDepth 100000
set_option maxHeartbeats 8000000
theorem app_int1 {H:List MB} {i n z:Nat} {l:List Int} {x:Int} {t:Bool} (hi:getRow H i=some (1,l.map I,z)) (hn:l.length=n) (hz:z≤n) (hr:n+1≤4000000000) :
  evAppend Tryz.prog H 22 22 (.ms i 1 n 0 n) (.sl t [I x])=some (.ms i 1 (n+1) 0 (n+1),H.set i (.row 1 ((l++[x]).map I) z)):=by
 have hs:srcElems Tryz.prog H 3 (.sl t [I x])=some [I x]:=rfl
 rw[evAppend_end (e:=3) (by kernel_rfl) (by kernel_rfl) (k:=1) (by kernel_rfl) (by_:=8) (by kernel_rfl) (ze:=I 0) (by kernel_rfl) rfl (by omega) hs rfl hi (by rw[List.length_map];exact hn) hz (room_ok (by simpa using hr) (by omega))]
 rw[List.map_append];rfl
theorem app_caps1 {H:List MB} {i n z:Nat} {l:List Caps} {x:Caps} {t:Bool} (hi:getRow H i=some (1,l.map capA,z)) (hn:l.length=n) (hz:z≤n) (hr:n+1≤4000000000) :
  evAppend Tryz.prog H 182 182 (.ms i 1 n 0 n) (.sl t [capA x])=some (.ms i 1 (n+1) 0 (n+1),H.set i (.row 1 ((l++[x]).map capA) z)):=by
 have hs:srcElems Tryz.prog H 77 (.sl t [capA x])=some [capA x]:=rfl
 rw[evAppend_end (e:=77) (by kernel_rfl) (by kernel_rfl) (k:=1) (by kernel_rfl) (by_:=24) (by kernel_rfl) (ze:=.sl true []) (by kernel_rfl) rfl (by omega) hs rfl hi (by rw[List.length_map];exact hn) hz (room_ok (by simpa using hr) (by omega))]
 rw[List.map_append];rfl
theorem f138 {caps top:Int} {t:List Int} {fuel:Int} (ht:t.length≤65536) (hf:0≤fuel∧fuel≤1000000) (d:Nat) (hR:Run138 caps top t fuel (runG t fuel d)):Run138 caps top t fuel (runG t fuel (d+1)):=by
 intro A K g i c s b s' hg hi0 hi1 hc hs he
 have hP:=runG_post caps top t fuel d
 obtain⟨i,rfl⟩:∃ j:Nat,i=j:=⟨i.toNat,by omega⟩
 have ret:=fun b s' e' L=>ret_sr (f:=97) rfl rfl b A K L t fuel s s' s.ends.length e'
 have ret0:=fun b s' e'=>ret_sr0 (f:=97) rfl rfl b A K t fuel s s' s.ends.length e'
 have hnp:ofK (.pointer none)=.nilp:=rfl
 have hpg:=plain_goal g
 have fr':frzArgs pol1 97 0 [.rf A.length 1 0 0,goalA g,I i,capA c] (srH A t fuel s s.ends.length K)=some ([.rf A.length 1 0 0,goalA g,I i,capA c],srH A t fuel s s.ends.length K):=frzArgs_mix _ _ _ (by
  simp only[mixOk,show pol1.byref 97 0=true from rfl,hpg,AV.plain,plain_span,Bool.true_or,Bool.or_true,Bool.and_self,Bool.and_true];rfl)
 refine call_run2 (pol:=pol1) Tryz.func97 rfl rfl rfl rfl fr' ?_
 have hka:∀ L L':List MB,(K++L)++L' = K++(L++L'):=fun L L'=>List.append_assoc K L L'
 have hsl:=hs.el
 have hst:=hs.st
 cases g with
 | nil=>
   simp only[runG,Option.some.injEq,Prod.mk.injEq]at he
   obtain⟨rfl,rfl⟩:=he
   have a1:=app_int1 (H:=srH A t fuel s s.ends.length K) (i:=A.length+1) (n:=s.ends.length) (z:=0) (l:=s.ends) (x:=(i:Int)) (t:=true) (by unfold getRow;rw[pre_get1]) rfl (Nat.zero_le _) (by omega)
   rw[pre_set1]at a1
   have a2:=fun S E=>app_caps1 (H:=A++S::E::.row 1 (s.caps.map capA) 0::K) (i:=A.length+2) (n:=s.ends.length) (z:=0) (l:=s.caps) (x:=c) (t:=true) (by unfold getRow;rw[pre_get2]) hs.cl (Nat.zero_le _) (by omega)
   simp only[pre_set2]at a2
   simp only[goalA]
   simp +contextual (disch:=omega) only[Tryz.f97,dd97,go_sem,simprocAttr,AV.cells,mu97,↓wrap_up,↓wrap_down,↓wrap_pred,↓wrap_sub_nat,hnp,evEq,pre_get,pre_set,a1,a2]
   exact⟨by unfold dOk;kernel_rfl,ret0 false ⟨s.steps,s.empty,s.ends++[(i:Int)],s.caps++[c]⟩ (s.ends.length+1)⟩
 | mk kind re k fr next=>
   obtain⟨g1,g2,g3,g4⟩:=hg
   simp only[runG]at he
   simp only[goalA]
   obtain⟨op,set,kids,mn,mx,md,n,neg⟩:=re
   have hG:∀ kind k fr next,goalC kind (.mk op set kids mn mx md n neg) k fr next=[I kind,I op,.sl false (set.map spanAV),.sl false (kids.map reAV),I mn,I mx,I md,I n,.bool neg,I k,I fr,goalA next]:=fun kind k fr next=>by
    rw[goalC,reC_mk];rfl
   rw[show (I kind::(reC (.mk op set kids mn mx md n neg)++[I k,I fr,goalA next]))=_ from hG kind k fr next]
   rcases g2 with rfl|⟨rfl,g2⟩|⟨rfl,g2⟩|⟨rfl,g2⟩
   ·rw[if_neg (by omega),if_neg (by omega),if_neg (by omega)]at he
    have c1:=f154 ht hf hP hR A K 0 _ k fr i next c s b s' g1 (by omega) g4 hc hs he
    rw[hG]at c1
    simp +contextual (disch:=omega) only[Tryz.f97,dd97,go_sem,simprocAttr,evAppend,List.map_append,mu97,↓wrap_up,↓wrap_down,↓wrap_pred,↓wrap_sub_nat,hnp,evEq,c1]
    exact ret0 b s' _
   ·rw[if_pos rfl]at he
    have c1:=f152 ht hf hP hR A K _ k fr i next c s b s' g1 g2.1 g2.2 ⟨by omega,hi1⟩ g4 hc hs he
    rw[hG]at c1
    simp +contextual (disch:=omega) only[Tryz.f97,dd97,go_sem,simprocAttr,evAppend,List.map_append,mu97,↓wrap_up,↓wrap_down,↓wrap_pred,↓wrap_sub_nat,hnp,evEq,c1]
    exact ret0 b s' _
   ·rw[if_neg (by omega),if_pos rfl]at he
    have he:(if mn≤k∧(i:Int)=fr then some (false,s) else runG t fuel d (.mk 1 (.mk op set kids mn mx md n neg) (k+1) 0 next) i c s)=some (b,s'):=he
    by_cases hm:mn≤k
    ·by_cases hif:(i:Int)=fr
     ·rw[if_pos ⟨hm,hif⟩]at he
      simp only[Option.some.injEq,Prod.mk.injEq]at he
      obtain⟨rfl,rfl⟩:=he
      simp +contextual (disch:=omega) only[Tryz.f97,dd97,go_sem,simprocAttr,evAppend,List.map_append,mu97,↓wrap_up,↓wrap_down,↓wrap_pred,↓wrap_sub_nat,hnp,evEq,hif,hm]
      exact⟨by unfold dOk;kernel_rfl,ret0 false _ _⟩
     ·rw[if_neg (by omega)]at he
      have hgg:GG caps top t.length s.steps (.mk 1 (.mk op set kids mn mx md n neg) (k+1) 0 next):=⟨g1,.inr (.inl ⟨rfl,g2.1,by omega,by omega⟩),⟨Int.le_refl _,by omega⟩,g4⟩
      have hcp:=plain_goalC 1 (.mk op set kids mn mx md n neg) (k+1) 0 next
      have c1:=(box138 A K t fuel s s.ends.length _ i c hcp).trans (hR A (K++[MB.row 12 [.agg (goalC 1 (.mk op set kids mn mx md n neg) (k+1) 0 next)] 1]) _ i c s b s' hgg (by omega) hi1 hc hs he)
      rw[hG]at c1
      have hw:IntKind.i64.wrap (k+1)=k+1:=by rw[i64_in]<;>omega
      simp +contextual (disch:=omega) only[Tryz.f97,dd97,go_sem,simprocAttr,evAppend,List.map_append,mu97,↓wrap_up,↓wrap_down,↓wrap_pred,↓wrap_sub_nat,hnp,evEq,hif,hm,hw,c1,sr_cat,cl_agg,cl_int,cl_bool,cl_sl,cl_rf,cl_pt,cl_nilp,cl_goal,ok_goal,List.all_append]
      repeat' (first|apply And.intro|(unfold dOk;kernel_rfl)|exact ok_goal next|(show (_ && _)=true;kernel_rfl)|(show (_ || _)=true;kernel_rfl)|intro _)
      exact ret b s' _ _
    ·rw[if_neg (by omega)]at he
     have hgg:GG caps top t.length s.steps (.mk 1 (.mk op set kids mn mx md n neg) (k+1) 0 next):=⟨g1,.inr (.inl ⟨rfl,g2.1,by omega,by omega⟩),⟨Int.le_refl _,by omega⟩,g4⟩
     have hcp:=plain_goalC 1 (.mk op set kids mn mx md n neg) (k+1) 0 next
     have c1:=(box138 A K t fuel s s.ends.length _ i c hcp).trans (hR A (K++[MB.row 12 [.agg (goalC 1 (.mk op set kids mn mx md n neg) (k+1) 0 next)] 1]) _ i c s b s' hgg (by omega) hi1 hc hs he)
     rw[hG]at c1
     have hw:IntKind.i64.wrap (k+1)=k+1:=by rw[i64_in]<;>omega
     simp +contextual (disch:=omega) only[Tryz.f97,dd97,go_sem,simprocAttr,evAppend,List.map_append,mu97,↓wrap_up,↓wrap_down,↓wrap_pred,↓wrap_sub_nat,hnp,evEq,hm,hw,c1,sr_cat,cl_agg,cl_int,cl_bool,cl_sl,cl_rf,cl_pt,cl_nilp,cl_goal,ok_goal,List.all_append]
     repeat' (first|apply And.intro|(unfold dOk;kernel_rfl)|exact ok_goal next|(show (_ && _)=true;kernel_rfl)|(show (_ || _)=true;kernel_rfl)|intro _)
     exact ret b s' _ _
   ·rw[if_neg (by omega),if_neg (by omega),if_pos rfl]at he
    have h153:=f153 c n fr i (by omega)
    have c1:=fun K'=>hR A K' next i _ s b s' g4 (by omega) hi1 (by rw[with_len];exact hc) hs he
    simp only[Re.n]at c1
    simp +contextual (disch:=omega) only[Tryz.f97,dd97,go_sem,simprocAttr,evAppend,List.map_append,mu97,↓wrap_up,↓wrap_down,↓wrap_pred,↓wrap_sub_nat,hnp,evEq,h153,c1]
    exact⟨by unfold dOk;kernel_rfl,by show (_ || _)=true;kernel_rfl,ret0 b s' _⟩
theorem run138 {caps top:Int} {t:List Int} {fuel:Int} (ht:t.length≤65536) (hf:0≤fuel∧fuel≤1000000):∀ d,Run138 caps top t fuel (runG t fuel d)
 | 0=>fun A K g i c s b s' _ _ _ _ _ e=>by cases g<;>simp[runG]at e
 | d+1=>f138 ht hf d (run138 ht hf d)
end
end Go.Ev
