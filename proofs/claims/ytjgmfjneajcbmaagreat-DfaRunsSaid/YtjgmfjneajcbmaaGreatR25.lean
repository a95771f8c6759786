/- Functions of the program, each with what it computes; no further conditions. -/
import Derived.Test.YtjgmfjneajcbmaaGreatR06
import Derived.Test.YtjgmfjneajcbmaaGreatR15
import Derived.Test.YtjgmfjneajcbmaaGreatR24
import Derived.Test.YtjgmfjneajcbmaaGreatR23
set_option linter.unusedVariables false
set_option linter.unusedSimpArgs false
namespace Go.Ev
attribute [local go_sem] eq_self bindW_some bindW_map bindW_ite bindW_iteN W_seq W_region W_draw W_cond W_condK W_ret W_skip W_exit W_scope W_label W_block blockK_norm blockK_ret blockK_exit WO_nil WO_cons WO_guard WD_nil WD_cons WD_guard guardV guardW_boolT guardW_boolF guardW_tup fpL_some fpL_none footprint footprint0 fineF thenK_norm thenK_ret thenK_exit put_some put_none ev_tmp ev_con ev_func ofK_int ofK_bool ofK_str ofK_nil ofK_agg ofC_int ofC_bool ofC_str ofC_nil ofC_nilp one_int one_bool one_str one_nil one_nilp evOp evBuiltin evCall evLen getElem_16 getElem_4 List.length_cons List.length_nil List.cons_append List.nil_append List.append_nil if_false if_true Bool.false_eq_true Bool.true_eq_false Option.map_some Option.map_none List.map_cons List.map_nil evBinOp evBin evUn asB_bool splitB_decide splitB_true splitB_false splitB_beq splitB_bne splitB_not endK_ret endK_norm List.getElem?_cons_zero List.getElem?_cons_succ evResults evResult packRes retK_norm retK_ret cellsAt mkVal evFieldAddr evField evIndexAddr evPart evStore evBuild evBuildSlice fillC fillE evSlice evMakeSlice evConvert getRow AV.cells List.head?_cons List.drop_zero List.drop_succ_cons List.take_zero List.take_succ_cons List.drop_nil List.take_nil List.all_cons List.all_nil AV.ok Bool.and_self Bool.and_true Bool.true_and and_self and_true true_and Nat.zero_add Nat.add_zero setCells splice pairsOk pairsX altW_none altW_some cfg_al WI_nil WI_cons FP.apart heapEq_refl sameAt_refl Bool.or_true Bool.true_or Bool.or_false srcElems elemsOf mutDst indDst evLenH evMapUpd evLookup getMp keyOk resOk strOf roundK_norm roundK_exit roundK_ret List.length_map List.getElem?_map Int.toNat_natCast decide_true decide_false Bool.not_true Bool.not_false List.set set_0 set_1 set_2 set_3 set_4 look_hit look lookD_hit lookD_cons lookD_nil ins_hit ins upd_hit upd rem1_hit rem1 dropT dropSt_eq initT cfg_dd cfg_bd cfg_ra actL_nil actL_cons act1 updT_hit updT frzB retE_norm retE_ret bndO bnd evEq eqCells not_false_eq_true not_true_eq_false toList_some Array.size_empty List.length_append tySzE List.head?_drop Nat.mul_one sameAt_zero sameAt_two sameAt_three sameAt_four sameAt_five endE_norm endE_ret head_take1 List.contains_nil List.contains_cons Bool.or_self dlt_t dlt_f dle_t dle_f dgt_t dgt_f dge_t dge_f beq_t beq_f bne_t bne_f lt_T le_T nle_T nle_F Go.IntWalk.i64_in Go.IntWalk.i64_quo Go.IntWalk.rem_in room_ok ty0 ty3 ty4 ty22 ty28 ty29 ty33 ty34 ty35 ty48 ty54 ty55 ty57 ty58 ty60 ty62 ty65 ty67
open Go.Proofs Go.RowKit Go.IntWalk
set_option maxRecDepth 100000
set_option maxHeartbeats 4000000
theorem ofK_nilp:ofK (.pointer none)=.nilp:=rfl
theorem f16e (H:List MB):evF Tryz.prog pol1 40 14 16 [] H=some (.bool true,H):=by kernel_rfl
theorem kf16 (H:List MB):call Tryz.prog pol1 16 [] H=some (.bool true,H):=call_of_evF (n:=40) 14 16 _ _ _ (f16e H)
theorem prgV_facts {g:Prg} (h:validG g=0):Leads g.ins∧0 < g.ins.length∧g.ins.length≤8192∧(0≤g.caps∧g.caps≤9)∧∀ i∈g.ins,i.op=4→0≤i.n∧i.n < 2 * g.caps:=by
 unfold validG at h
 split at h
 ·cases h
 rename_i h1
 split at h
 ·cases h
 rename_i h2
 split at h
 ·rename_i h3
  rw[Bool.and_eq_true,List.all_eq_true]at h3
  obtain⟨h3,h4⟩:=h3
  refine⟨fun n i hi=>?_,by omega,by omega,by omega,fun i hi h5=>?_⟩
  ·have hm:=h3 i (List.mem_of_getElem? hi)
   have hlt:=(List.getElem?_eq_some_iff.1 hi).1
   simp only[okIns,Bool.and_eq_true,Bool.or_eq_true,beq_iff_eq,decide_eq_true_eq]at hm
   refine⟨by omega,fun h=>by omega,fun h=>by omega,fun h=>?_⟩
   rcases Nat.lt_or_ge (n+1) g.ins.length with h6|h6
   ·exact h6
   ·exfalso
    obtain rfl:n=g.ins.length - 1:=by omega
    simp only[lastGood,hi,Bool.or_eq_true,beq_iff_eq]at h4
    omega
  ·have hm:=h3 i hi
   simp only[okIns,Bool.and_eq_true,Bool.or_eq_true,beq_iff_eq,decide_eq_true_eq]at hm
   omega
 ·cases h
theorem accept_facts {g:Prg} (h:acceptG g=0):validG g=0∧∀ i∈g.ins,i.op≠5:=by
 unfold acceptG at h
 split at h
 ·rename_i h1;exact absurd h h1
 ·rename_i h1
  split at h
  ·cases h
  ·rename_i h2
   refine⟨by omega,fun i hi h5=>h2 (List.any_eq_true.2 ⟨i,hi,by simp[h5]⟩)⟩
theorem DI.afterRef {ins:List Ins} {first:List Nat} {size RD LB LB':Nat} {D C:Nat} {a:Lay2} {c c':CS} {g:Prg} {H H':List MB} (h:DI ins first size (fun i=>i=RD∨i=LB) D C a c H) (fr:FR RD LB LB' H H') (r:RI g size RD LB' c' H') :
  DI ins first size (fun i=>i=RD∨i=LB') D C a c H':=by
 have d:=h.frame fr.len (fun i hp hi=>fr.same i (fun e=>hp (.inl e)) (fun e=>hp (.inr e)) hi)
 obtain⟨z,_,hl⟩:=r.l
 refine d.repro (fun i hp=>?_) (fun i hp=>?_)
 ·rcases hp with rfl|rfl
  ·exact(List.getElem?_eq_some_iff.1 r.d).1
  ·exact(List.getElem?_eq_some_iff.1 hl).1
 ·rcases hp with rfl|rfl
  ·exact d.off (.inl rfl)
  ·rcases fr.lb with e|e
   ·exact d.off (.inr e)
   ·exact h.new e
theorem RI.low {g:Prg} {size RD LB:Nat} {c:CS} {H H':List MB} (r:RI g size RD LB c H) (h:KeepsLow (fun i=>i=RD∨i=LB) H H'):RI g size RD LB c H':=by
 obtain⟨z,hz,hl⟩:=r.l
 exact⟨(h.2 RD (.inl rfl)).trans r.d,⟨z,hz,(h.2 LB (.inr rfl)).trans hl⟩,r.ne,r.small,r.lens⟩
theorem app_ii {H:List MB} {i n k:Nat} {rs ys:List Int} {t:Bool} (hi:getRow H i=some (1,rs.map I,0)) (hn:rs.length=n) (hk:ys.length=k) (hr:n+k≤4000000000) :
  evAppend Tryz.prog H 22 22 (.ms i 1 n 0 n) (.sl t (ys.map I))=some (.ms i 1 (n+k) 0 (n+k),H.set i (.row 1 ((rs++ys).map I) 0)):=by
 have hs:srcElems Tryz.prog H 3 (.sl t (ys.map I))=some (ys.map I):=rfl
 rw[evAppend_end (e:=3) (by kernel_rfl) (by kernel_rfl) (k:=1) (by kernel_rfl) (by_:=8) (by kernel_rfl) (ze:=I 0) (by kernel_rfl) rfl (by omega) hs (by simp[AV.cells,AV.ok]) hi (by rw[List.length_map];exact hn) (Nat.zero_le _) (room_ok (by simp;omega) (by omega))]
 rw[List.map_append,List.length_map,hk]
abbrev txAV (x:List Int):AV:=.sl false (x.map I)
structure RW where
 i:Nat
 H:List MB
 a:Lay2
 c:CS
 LB:Nat
structure RW2 where
 at_:Nat
 H:List MB
 LB:Nat
theorem kf4 (l m k:List Int) (cache:Int) (plain:Bool) (hl:∀ x∈l,In64 x) (hm:∀ x∈m,In64 x) (hk:∀ x∈k,In64 x) (hc:In64 cache) (H:List MB):call Tryz.prog pol1 4 [.sl false (l.map I),.sl false (m.map I),.sl false (k.map I),I cache,.bool plain] H=some (.bool true,H):=by
 obtain⟨_,⟨g1,hg1,rfl⟩,h9⟩:=f21 l hl
 have hb1:PrgB g1:=⟨by have:=hg1.len;omega,fun i hi=>by have:=hg1.sets i hi;omega⟩
 obtain⟨_,⟨cap,re,caps,xs,hfit,hcomp,rfl⟩,h7⟩:=f31 l m hl hm false
 have hxl:=hfit.tl
 have h8:=f15 ⟨re,caps,false⟩ hfit.wt
 have h19:∀ H,call Tryz.prog pol1 19 [.sl false (k.map I),I 12] H=some (.sl false ((textI k 12).map I),H):=kf17t k hk 12 (by omega)
 have htl:(textI k 12).length≤12:=by rw[textI,textN_len];omega
 generalize textI k 12=tx at *
 have h10:=f12 cache 6 hc (by omega)
 have har:=around_lt (n:=cache) (m:=6) (by omega)
 obtain⟨q,hq⟩:∃ q:Nat,aroundI cache 6=q:=⟨(aroundI cache 6).toNat,by omega⟩
 rw[hq]at h10 har
 have hw:IntKind.i64.wrap (1+(q:Int))=((q+1:Nat):Int):=by rw[i64_in]<;>omega
 have hpl:=plain_ints l
 have hpm:=plain_ints m
 have hpk:=plain_ints k
 have h16:=kf16
 refine call_run Tryz.func4 rfl rfl rfl rfl rfl rfl (fun _=>rfl) (by simp[AV.plain,AV.plainL,hpl,hpm,hpk]) (by simp[AV.plain]) ?_ H
 have hl8:=reC_len re
 have hpok:(patC ⟨re,caps,false⟩).all AV.ok=true:=by have:=reC_ok re;simp[patC,List.all_append,this,AV.ok]
 have htk:List.take 10 (patC ⟨re,caps,false⟩)=patC ⟨re,caps,false⟩:=List.take_of_length_le (by simp[patC,reC_len])
 cases plain with
 | false=>
   obtain⟨g,rfl⟩:∃ g,g=g1:=⟨_,rfl⟩
   have hb:=hb1
   have h17:=kf17 g hb
   have h14:=f24 g hb.1
   by_cases hacc:acceptG g=0
   ·obtain⟨hv,h5⟩:=accept_facts hacc
    obtain⟨hw1,hN,hl1,hcap,hsv⟩:=prgV_facts hv
    have ho:∀ i∈g.ins,i.op=0∨i.op=1∨i.op=2∨i.op=3∨i.op=4:=fun i hi=>by
     obtain⟨n,hn,e⟩:=List.getElem_of_mem hi
     have:=(hw1 n i (by rw[← e];exact List.getElem?_eq_getElem hn)).1
     have:=h5 i hi
     omega
    rw[hacc]at h17
    obtain⟨_,⟨D,C,H1,a1,rfl,di1,low1⟩,h18⟩:=kf9n g hb hw1 hN hl1 (q+1) ⟨by omega,by omega⟩ [.row 3 [prgAV g] 0,.row 10 [patAV ⟨re,caps,false⟩] 0] hacc
    have hH1:H1[0]?=some (.row 3 [prgAV g] 0):=by rw[low1.2 0 (by simp)];rfl
    have hgl:=fun x:MB=>kget_last H1 x
    have hsl:=fun x y:MB=>kset_last H1 x y
    have e1:∀ x y z:MB,(H1++[x]++[y]++[z])[H1.length+2]?=some z:=fun x y z=>by rw[List.getElem?_append_right (by simp)];simp
    have e2:∀ x y z v:MB,(H1++[x]++[y]++[z]).set (H1.length+2) v=H1++[x]++[y]++[v]:=fun x y z v=>by rw[List.set_append_right _ _ (by simp)];simp
    have a1':∀(x y:MB) (t:Bool),evAppend Tryz.prog (H1++[x]++[y]++[.row 1 [] 0]) 22 22 (.ms (H1.length+1+1) 1 0 0 0) (.sl t (xs.map I))=some (.ms (H1.length+2) 1 xs.length 0 xs.length,H1++[x]++[y]++[.row 1 (xs.map I) 0]):=by
     intro x y t
     have:=app_ii (H:=H1++[x]++[y]++[.row 1 [] 0]) (i:=H1.length+2) (rs:=([]:List Int)) (ys:=xs) (t:=t) (by unfold getRow;rw[e1];rfl) rfl rfl (by simp only[List.length_nil];omega)
     rw[e2]at this
     simpa using this
    have a2':∀(x y:MB) (t:Bool),evAppend Tryz.prog (H1++[x]++[y]++[.row 1 (xs.map I) 0]) 22 22 (.ms (H1.length+2) 1 xs.length 0 xs.length) (.sl t (xs.map I))=some (.ms (H1.length+2) 1 (xs.length+xs.length) 0 (xs.length+xs.length),H1++[x]++[y]++[.row 1 ((xs++xs).map I) 0]):=by
     intro x y t
     have:=app_ii (H:=H1++[x]++[y]++[.row 1 (xs.map I) 0]) (i:=H1.length+2) (rs:=xs) (ys:=xs) (t:=t) (by unfold getRow;rw[e1]) rfl rfl (by omega)
     rw[e2]at this
     exact this
    have hfz:∀(x y:MB),fz (.sl true [.sl false (xs.map I),.sl false (tx.map I),.ms (H1.length+2) 1 (xs.length+xs.length) 0 (xs.length+xs.length),.sl true []]) (H1++[x]++[y]++[.row 1 ((xs++xs).map I) 0]) =
      some (.sl false [txAV xs,txAV tx,txAV (xs++xs),txAV []],H1++[x]++[y]++[.row 1 ((xs++xs).map I) (xs.length+xs.length)]):=by
     intro x y
     have hr:getRow (H1++[x]++[y]++[MB.row 1 ((xs++xs).map I) 0]) (H1.length+2)=some (1,(xs++xs).map I,0):=by unfold getRow;rw[e1]
     have h1:=fzA_row (n:=5) (tot:=xs.length+xs.length) hr (by simp) (plain_ints _)
     have hm:mark (H1++[x]++[y]++[MB.row 1 ((xs++xs).map I) 0]) (H1.length+2) (xs.length+xs.length)=H1++[x]++[y]++[.row 1 ((xs++xs).map I) (xs.length+xs.length)]:=by
      unfold mark;rw[hr];simp only[e2,Nat.zero_max,Nat.max_eq_right (Nat.zero_le _)]
     rw[hm]at h1
     have p1:=fun H=>fzA_plain (fzJ 6) (.sl false (xs.map I)) H (by simp[AV.plain,plain_ints])
     have p2:=fun H=>fzA_plain (fzJ 6) (.sl false (tx.map I)) H (by simp[AV.plain,plain_ints])
     have p3:∀ H,fzA (fzJ 6) (.sl true []) H=some (.sl false [],H):=fun H=>rfl
     simp only[fz,fzA_sl,fzL,p1,p2,h1,p3]
     rfl
    simp +contextual (disch:=omega) only[Tryz.f4,dd4,go_sem,↓reduceIte,List.reduceReplicate,Nat.reduceAdd,Nat.reduceSub,reduceCtorEq,Nat.reduceLeDiff,Nat.reduceMul,Nat.reduceLT,Nat.reduceEqDiff,Int.reduceBNe,Int.reduceBEq,Int.reduceEq,Int.reduceLT,Int.reduceLE,Int.reduceGT,Int.reduceGE,mu4,Nat.reduceBEq,↓wrap_up,↓wrap_down,↓wrap_pred,↓wrap_sub_nat,Int.reduceToNat,hl8,hpok,htk,h9,h7,h17,h14,h10,hw,h18,hH1,hgl,hsl,h19,a1',a2',hfz,ofK_nilp,evEq]
    have htd1:∀ {i:Nat},i=H1.length∨i=H1.length+1→i≠D∧i≠C∧a1.st i=none∧a1.nx i=none:=fun {i} hp=>di1.new (by omega)
    obtain⟨hso,hss⟩:=stateL_ok g.ins [0]
    refine W_for (σ:=RW) (M:=(mskOf (pol1.mask 4) (pol1.gc 4) (pol1.acts 4) 0 15)) rfl (fun x=>(⟨200,[(21,I x.i),(20,.sl false [txAV xs,txAV tx,txAV (xs++xs),txAV []]),(19,.rf H1.length 1 0 0),(17,.rf D 1 0 0),(3,I cache)],x.H⟩:St))
     (fun x=>x.i≤4∧DI g.ins (stateL g.ins [0]) (q+1) (fun i=>i=H1.length∨i=x.LB) D C x.a x.c x.H∧RI g (q+1) H1.length x.LB x.c x.H∧x.c.made≤10000 * x.i) (fun x=>4 - x.i)
     ⟨0,H1++[MB.row 7 [refAV g (q+1) (H1.length+1) ⟨[],0,0⟩] 0]++[.row 1 [] 0]++[.row 1 ((xs++xs).map I) (xs.length+xs.length)],a1,⟨[],0,0⟩,H1.length+1⟩ ?_ ⟨Nat.zero_le _,?_,?_,Nat.zero_le _⟩ _ rfl
    ·rintro⟨i,H2,a2,c2,LB⟩ ⟨q1,q2,q3,q4⟩
     simp only at q1 q2 q3 q4 ⊢
     by_cases hi:i < 4
     ·obtain⟨zs,hz,hzl⟩:∃ zs:List Int,([txAV xs,txAV tx,txAV (xs++xs),txAV []]:List AV)[i]?=some (txAV zs)∧zs.length≤24:=by
       have:i=0∨i=1∨i=2∨i=3:=by omega
       rcases this with rfl|rfl|rfl|rfl
       ·exact⟨xs,rfl,by omega⟩
       ·exact⟨tx,rfl,by omega⟩
       ·exact⟨xs++xs,rfl,by simp;omega⟩
       ·exact⟨[],rfl,by simp⟩
      obtain⟨_,⟨H3,a3,rfl,d3,low3⟩,h20⟩:=kf20e q2 ⟨hl1,hw1,hb.2⟩ hso hss zs (by omega) (by omega)
      have r3:=q3.low low3
      have hel:=endsL_len g.ins (stateL g.ins [0]) zs
      have hmul:∀ n,n≤zs.length+1→n * (zs.length+1)≤25 * 25:=fun n hn=>Nat.mul_le_mul (by omega) (by omega)
      have hem:=fun n=>endsC_made g.ins (q+1) (stateL g.ins [0]) zs c2 n
      have helI:((endsL g.ins (stateL g.ins [0]) zs).length:Int)=((zs.length+1:Nat):Int):=by rw[hel]
      simp +contextual (disch:=omega) only[Tryz.f4,dd4,go_sem,↓reduceIte,evAppend,List.reduceReplicate,Nat.reduceAdd,Nat.reduceSub,reduceCtorEq,Nat.reduceLeDiff,Nat.reduceMul,Nat.reduceLT,Nat.reduceEqDiff,Int.reduceBNe,Int.reduceBEq,Int.reduceEq,Int.reduceLT,Int.reduceLE,Int.reduceGT,Int.reduceGE,List.map_append,mu4,Nat.reduceBEq,↓wrap_up,↓wrap_down,↓wrap_pred,↓wrap_sub_nat,Int.reduceToNat,hz,h20,hel]
      refine W_for (σ:=RW2) (M:=(mskOf (pol1.mask 4) (pol1.gc 4) (pol1.acts 4) 0 21)) rfl (fun x=>(⟨200,[(24,I x.at_),(22,.sl false ((endsL g.ins (stateL g.ins [0]) zs).map I)),(21,I i),(20,.sl false [txAV xs,txAV tx,txAV (xs++xs),txAV []]),(19,.rf H1.length 1 0 0),(17,.rf D 1 0 0),(3,I cache)],x.H⟩:St))
       (fun x=>x.at_≤zs.length+1∧DI g.ins (stateL g.ins [0]) (q+1) (fun j=>j=H1.length∨j=x.LB) D C a3 (endsC g.ins (q+1) (stateL g.ins [0]) zs c2 (zs.length+1)) x.H∧RI g (q+1) H1.length x.LB (endsC g.ins (q+1) (stateL g.ins [0]) zs c2 x.at_) x.H) (fun x=>zs.length+1 - x.at_) ⟨0,H3,LB⟩ ?_ ⟨Nat.zero_le _,d3,r3⟩ _ rfl
      rintro⟨at_,H4,LB4⟩ ⟨p1,p2,p3⟩
      simp only at p1 p2 p3 ⊢
      have hm4:=hem at_
      have hmu4:=hmul at_ p1
      by_cases hat:at_≤zs.length
      ·obtain⟨_,⟨LB5,H5,rfl,r5,fr5⟩,h21⟩:=kf21r p3 hl1 hN hw1 ho hb.2 zs (by omega) at_ hat (by omega)
       have hat':=endsL_at g.ins (stateL g.ins [0]) zs (n:=at_) (by omega)
       have hat2:((endsL g.ins (stateL g.ins [0]) zs).map I)[at_]?=some (I (runL g.ins (zs.drop at_) at_ (stateL g.ins [0]) (-1))):=by rw[List.getElem?_map,hat'];rfl
       simp +contextual (disch:=omega) only[Tryz.f4,dd4,go_sem,↓reduceIte,evAppend,List.reduceReplicate,Nat.reduceAdd,Nat.reduceSub,reduceCtorEq,Nat.reduceLeDiff,Nat.reduceMul,Nat.reduceLT,Nat.reduceEqDiff,Int.reduceBNe,Int.reduceBEq,Int.reduceEq,Int.reduceLT,Int.reduceLE,Int.reduceGT,Int.reduceGE,List.map_append,mu4,Nat.reduceBEq,↓wrap_up,↓wrap_down,↓wrap_pred,↓wrap_sub_nat,Int.reduceToNat,hz,hat2,h21]
       repeat' (first|intro _|apply And.intro|(unfold dOk;kernel_rfl)|exact St.beq_refl _|(show altO _ _ _ _=true;kernel_rfl)|(show (_ || _)=true;kernel_rfl)|(show (_ && _)=true;kernel_rfl))
       all_goals exact⟨⟨at_+1,H5,LB5⟩,⟨by simp only;omega,p2.afterRef fr5 r5,r5⟩,by simp only;omega,rfl⟩
      ·obtain rfl:at_=zs.length+1:=by omega
       have h10b:=f12 cache ((zs.length+1:Nat):Int) hc (by omega)
       have harb:=around_lt (n:=cache) (m:=((zs.length+1:Nat):Int)) (by omega)
       obtain⟨v,hv2⟩:∃ v:Nat,aroundI cache ((zs.length+1:Nat):Int)=v:=⟨(aroundI cache ((zs.length+1:Nat):Int)).toNat,by omega⟩
       rw[hv2]at h10b harb
       obtain⟨_,⟨H5,a5,rfl,d5,le5,low5⟩,h22⟩:=kf13e p2 ⟨hl1,hw1,hb.2⟩ hso hss zs (by omega) v (by omega) (by omega)
       have r5:=p3.low low5
       obtain⟨_,⟨LB6,H6,rfl,r6,fr6⟩,h21⟩:=kf21r r5 hl1 hN hw1 ho hb.2 zs (by omega) v (by omega) (by omega)
       have d6:=d5.afterRef fr6 r6
       have h23:=kf12s d6
       have hD6:=r6.d
       have hm6:=runC_made g.ins (q+1) (zs.drop v) (stateL g.ins [0]) ((endsC g.ins (q+1) (stateL g.ins [0]) zs c2 (zs.length+1)).need (q+1) (stateL g.ins [0]))
       have hm7:=CS.need_made (endsC g.ins (q+1) (stateL g.ins [0]) zs c2 (zs.length+1)) (q+1) (stateL g.ins [0])
       rw[List.length_drop]at hm6
       generalize runC g.ins (q+1) (zs.drop v) (stateL g.ins [0]) ((endsC g.ins (q+1) (stateL g.ins [0]) zs c2 (zs.length+1)).need (q+1) (stateL g.ins [0]))=c6 at *
       generalize runL g.ins (zs.drop v) v (stateL g.ins [0]) (-1)=e at *
       by_cases he:0≤e
       ·rw[decide_eq_true he,if_pos he]at h22
        simp +contextual (disch:=omega) only[Tryz.f4,dd4,go_sem,↓reduceIte,evAppend,List.reduceReplicate,Nat.reduceAdd,Nat.reduceSub,reduceCtorEq,Nat.reduceLeDiff,Nat.reduceMul,Nat.reduceLT,Nat.reduceEqDiff,Int.reduceBNe,Int.reduceBEq,Int.reduceEq,Int.reduceLT,Int.reduceLE,Int.reduceGT,Int.reduceGE,List.map_append,mu4,Nat.reduceBEq,↓wrap_up,↓wrap_down,↓wrap_pred,↓wrap_sub_nat,Int.reduceToNat,hz,h10b,h22,h21,h23,hD6,evEq,beq_self_eq_true,evMax]
        repeat' (first|intro _|apply And.intro|(unfold dOk;kernel_rfl)|exact St.beq_refl _|(show altO _ _ _ _=true;kernel_rfl)|(show (_ || _)=true;kernel_rfl)|(show (_ && _)=true;kernel_rfl))
        all_goals exact⟨⟨i+1,H6,a5,c6,LB6⟩,⟨by simp only;omega,d6,r6,by simp only;omega⟩,by simp only;omega,rfl⟩
       ·rw[decide_eq_false he,if_neg he]at h22
        simp +contextual (disch:=omega) only[Tryz.f4,dd4,go_sem,↓reduceIte,evAppend,List.reduceReplicate,Nat.reduceAdd,Nat.reduceSub,reduceCtorEq,Nat.reduceLeDiff,Nat.reduceMul,Nat.reduceLT,Nat.reduceEqDiff,Int.reduceBNe,Int.reduceBEq,Int.reduceEq,Int.reduceLT,Int.reduceLE,Int.reduceGT,Int.reduceGE,List.map_append,mu4,Nat.reduceBEq,↓wrap_up,↓wrap_down,↓wrap_pred,↓wrap_sub_nat,Int.reduceToNat,hz,h10b,h22,h21,h23,hD6,evEq,beq_self_eq_true,evMax]
        repeat' (first|intro _|apply And.intro|(unfold dOk;kernel_rfl)|exact St.beq_refl _|(show altO _ _ _ _=true;kernel_rfl)|(show (_ || _)=true;kernel_rfl)|(show (_ && _)=true;kernel_rfl))
        all_goals exact⟨⟨i+1,H6,a5,c6,LB6⟩,⟨by simp only;omega,d6,r6,by simp only;omega⟩,by simp only;omega,rfl⟩
     ·simp +contextual (disch:=omega) only[Tryz.f4,dd4,go_sem,↓reduceIte,evAppend,List.reduceReplicate,Nat.reduceAdd,Nat.reduceSub,reduceCtorEq,Nat.reduceLeDiff,Nat.reduceMul,Nat.reduceLT,Nat.reduceEqDiff,Int.reduceBNe,Int.reduceBEq,Int.reduceEq,Int.reduceLT,Int.reduceLE,Int.reduceGT,Int.reduceGE,List.map_append,mu4,Nat.reduceBEq,↓wrap_up,↓wrap_down,↓wrap_pred,↓wrap_sub_nat,Int.reduceToNat,h16]
      exact fzEq rfl rfl
    ·exact((((di1.push _).push _).push _).repro (fun i hp=>by rcases hp with rfl|rfl<;>simp) (fun i hp=>htd1 hp))
    ·refine⟨?_,⟨0,Nat.le_refl _,?_⟩,by show H1.length≠H1.length+1;omega,⟨by simp,by simp,by simp,by omega,by omega⟩,fun l h=>by cases h⟩
     ·show (H1++[_]++[_]++[_])[H1.length]?=_
      rw[List.append_assoc,List.append_assoc,List.getElem?_append_right (Nat.le_refl _)];simp
     ·show (H1++[_]++[_]++[_])[H1.length+1]?=_
      rw[List.append_assoc,List.append_assoc,List.getElem?_append_right (by omega)];simp
   ·obtain⟨H1,h18,low⟩:=kf9_bad g hb 3 [.row 3 [prgAV g] 0,.row 10 [patAV ⟨re,caps,false⟩] 0] hacc
    have hH1:H1[0]?=some (.row 3 [prgAV g] 0):=by rw[low.2 0 (by simp)];rfl
    generalize acceptG g=e at *
    simp +contextual (disch:=omega) only[Tryz.f4,dd4,go_sem,↓reduceIte,evAppend,List.reduceReplicate,Nat.reduceAdd,Nat.reduceSub,reduceCtorEq,Nat.reduceLeDiff,Nat.reduceMul,Nat.reduceLT,Nat.reduceEqDiff,Int.reduceBNe,Int.reduceBEq,Int.reduceEq,Int.reduceLT,Int.reduceLE,Int.reduceGT,Int.reduceGE,List.map_append,mu4,Nat.reduceBEq,↓wrap_up,↓wrap_down,↓wrap_pred,↓wrap_sub_nat,Int.reduceToNat,hl8,hpok,htk,h9,h7,h17,h14,h18,hH1,h16]
    exact fzEq rfl rfl
 | true=>
   obtain⟨g,hg⟩:∃ g,g=(compP ⟨re,caps,false⟩).1:=⟨_,rfl⟩
   rw[← hg]at h8
   have hb:PrgB g:=by
    have e:(compP ⟨re,caps,false⟩).1=prgOf re caps false:=by
     unfold compP
     rw[if_pos hfit.val,if_pos hcomp,if_pos (by have:=hfit.len;simp only;omega)]
    rw[hg,e]
    exact(prg_valid hfit.val (codable_of re [] hcomp) (by have:=hfit.len;omega)).2
   have h17:=kf17 g hb
   have h14:=f24 g hb.1
   by_cases hacc:acceptG g=0
   ·obtain⟨hv,h5⟩:=accept_facts hacc
    obtain⟨hw1,hN,hl1,hcap,hsv⟩:=prgV_facts hv
    have ho:∀ i∈g.ins,i.op=0∨i.op=1∨i.op=2∨i.op=3∨i.op=4:=fun i hi=>by
     obtain⟨n,hn,e⟩:=List.getElem_of_mem hi
     have:=(hw1 n i (by rw[← e];exact List.getElem?_eq_getElem hn)).1
     have:=h5 i hi
     omega
    rw[hacc]at h17
    obtain⟨_,⟨D,C,H1,a1,rfl,di1,low1⟩,h18⟩:=kf9n g hb hw1 hN hl1 (q+1) ⟨by omega,by omega⟩ [.row 3 [prgAV g] 0,.row 10 [patAV ⟨re,caps,false⟩] 0] hacc
    have hH1:H1[0]?=some (.row 3 [prgAV g] 0):=by rw[low1.2 0 (by simp)];rfl
    have hgl:=fun x:MB=>kget_last H1 x
    have hsl:=fun x y:MB=>kset_last H1 x y
    have e1:∀ x y z:MB,(H1++[x]++[y]++[z])[H1.length+2]?=some z:=fun x y z=>by rw[List.getElem?_append_right (by simp)];simp
    have e2:∀ x y z v:MB,(H1++[x]++[y]++[z]).set (H1.length+2) v=H1++[x]++[y]++[v]:=fun x y z v=>by rw[List.set_append_right _ _ (by simp)];simp
    have a1':∀(x y:MB) (t:Bool),evAppend Tryz.prog (H1++[x]++[y]++[.row 1 [] 0]) 22 22 (.ms (H1.length+1+1) 1 0 0 0) (.sl t (xs.map I))=some (.ms (H1.length+2) 1 xs.length 0 xs.length,H1++[x]++[y]++[.row 1 (xs.map I) 0]):=by
     intro x y t
     have:=app_ii (H:=H1++[x]++[y]++[.row 1 [] 0]) (i:=H1.length+2) (rs:=([]:List Int)) (ys:=xs) (t:=t) (by unfold getRow;rw[e1];rfl) rfl rfl (by simp only[List.length_nil];omega)
     rw[e2]at this
     simpa using this
    have a2':∀(x y:MB) (t:Bool),evAppend Tryz.prog (H1++[x]++[y]++[.row 1 (xs.map I) 0]) 22 22 (.ms (H1.length+2) 1 xs.length 0 xs.length) (.sl t (xs.map I))=some (.ms (H1.length+2) 1 (xs.length+xs.length) 0 (xs.length+xs.length),H1++[x]++[y]++[.row 1 ((xs++xs).map I) 0]):=by
     intro x y t
     have:=app_ii (H:=H1++[x]++[y]++[.row 1 (xs.map I) 0]) (i:=H1.length+2) (rs:=xs) (ys:=xs) (t:=t) (by unfold getRow;rw[e1]) rfl rfl (by omega)
     rw[e2]at this
     exact this
    have hfz:∀(x y:MB),fz (.sl true [.sl false (xs.map I),.sl false (tx.map I),.ms (H1.length+2) 1 (xs.length+xs.length) 0 (xs.length+xs.length),.sl true []]) (H1++[x]++[y]++[.row 1 ((xs++xs).map I) 0]) =
      some (.sl false [txAV xs,txAV tx,txAV (xs++xs),txAV []],H1++[x]++[y]++[.row 1 ((xs++xs).map I) (xs.length+xs.length)]):=by
     intro x y
     have hr:getRow (H1++[x]++[y]++[MB.row 1 ((xs++xs).map I) 0]) (H1.length+2)=some (1,(xs++xs).map I,0):=by unfold getRow;rw[e1]
     have h1:=fzA_row (n:=5) (tot:=xs.length+xs.length) hr (by simp) (plain_ints _)
     have hm:mark (H1++[x]++[y]++[MB.row 1 ((xs++xs).map I) 0]) (H1.length+2) (xs.length+xs.length)=H1++[x]++[y]++[.row 1 ((xs++xs).map I) (xs.length+xs.length)]:=by
      unfold mark;rw[hr];simp only[e2,Nat.zero_max,Nat.max_eq_right (Nat.zero_le _)]
     rw[hm]at h1
     have p1:=fun H=>fzA_plain (fzJ 6) (.sl false (xs.map I)) H (by simp[AV.plain,plain_ints])
     have p2:=fun H=>fzA_plain (fzJ 6) (.sl false (tx.map I)) H (by simp[AV.plain,plain_ints])
     have p3:∀ H,fzA (fzJ 6) (.sl true []) H=some (.sl false [],H):=fun H=>rfl
     simp only[fz,fzA_sl,fzL,p1,p2,h1,p3]
     rfl
    simp +contextual (disch:=omega) only[Tryz.f4,dd4,go_sem,↓reduceIte,List.reduceReplicate,Nat.reduceAdd,Nat.reduceSub,reduceCtorEq,Nat.reduceLeDiff,Nat.reduceMul,Nat.reduceLT,Nat.reduceEqDiff,Int.reduceBNe,Int.reduceBEq,Int.reduceEq,Int.reduceLT,Int.reduceLE,Int.reduceGT,Int.reduceGE,mu4,Nat.reduceBEq,↓wrap_up,↓wrap_down,↓wrap_pred,↓wrap_sub_nat,Int.reduceToNat,hl8,hpok,htk,h9,h7,h8,h17,h14,h10,hw,h18,hH1,hgl,hsl,h19,a1',a2',hfz,ofK_nilp,evEq]
    have htd1:∀ {i:Nat},i=H1.length∨i=H1.length+1→i≠D∧i≠C∧a1.st i=none∧a1.nx i=none:=fun {i} hp=>di1.new (by omega)
    obtain⟨hso,hss⟩:=stateL_ok g.ins [0]
    refine W_for (σ:=RW) (M:=(mskOf (pol1.mask 4) (pol1.gc 4) (pol1.acts 4) 0 15)) rfl (fun x=>(⟨200,[(21,I x.i),(20,.sl false [txAV xs,txAV tx,txAV (xs++xs),txAV []]),(19,.rf H1.length 1 0 0),(17,.rf D 1 0 0),(3,I cache)],x.H⟩:St))
     (fun x=>x.i≤4∧DI g.ins (stateL g.ins [0]) (q+1) (fun i=>i=H1.length∨i=x.LB) D C x.a x.c x.H∧RI g (q+1) H1.length x.LB x.c x.H∧x.c.made≤10000 * x.i) (fun x=>4 - x.i)
     ⟨0,H1++[MB.row 7 [refAV g (q+1) (H1.length+1) ⟨[],0,0⟩] 0]++[.row 1 [] 0]++[.row 1 ((xs++xs).map I) (xs.length+xs.length)],a1,⟨[],0,0⟩,H1.length+1⟩ ?_ ⟨Nat.zero_le _,?_,?_,Nat.zero_le _⟩ _ rfl
    ·rintro⟨i,H2,a2,c2,LB⟩ ⟨q1,q2,q3,q4⟩
     simp only at q1 q2 q3 q4 ⊢
     by_cases hi:i < 4
     ·obtain⟨zs,hz,hzl⟩:∃ zs:List Int,([txAV xs,txAV tx,txAV (xs++xs),txAV []]:List AV)[i]?=some (txAV zs)∧zs.length≤24:=by
       have:i=0∨i=1∨i=2∨i=3:=by omega
       rcases this with rfl|rfl|rfl|rfl
       ·exact⟨xs,rfl,by omega⟩
       ·exact⟨tx,rfl,by omega⟩
       ·exact⟨xs++xs,rfl,by simp;omega⟩
       ·exact⟨[],rfl,by simp⟩
      obtain⟨_,⟨H3,a3,rfl,d3,low3⟩,h20⟩:=kf20e q2 ⟨hl1,hw1,hb.2⟩ hso hss zs (by omega) (by omega)
      have r3:=q3.low low3
      have hel:=endsL_len g.ins (stateL g.ins [0]) zs
      have hmul:∀ n,n≤zs.length+1→n * (zs.length+1)≤25 * 25:=fun n hn=>Nat.mul_le_mul (by omega) (by omega)
      have hem:=fun n=>endsC_made g.ins (q+1) (stateL g.ins [0]) zs c2 n
      have helI:((endsL g.ins (stateL g.ins [0]) zs).length:Int)=((zs.length+1:Nat):Int):=by rw[hel]
      simp +contextual (disch:=omega) only[Tryz.f4,dd4,go_sem,↓reduceIte,evAppend,List.reduceReplicate,Nat.reduceAdd,Nat.reduceSub,reduceCtorEq,Nat.reduceLeDiff,Nat.reduceMul,Nat.reduceLT,Nat.reduceEqDiff,Int.reduceBNe,Int.reduceBEq,Int.reduceEq,Int.reduceLT,Int.reduceLE,Int.reduceGT,Int.reduceGE,List.map_append,mu4,Nat.reduceBEq,↓wrap_up,↓wrap_down,↓wrap_pred,↓wrap_sub_nat,Int.reduceToNat,hz,h20,hel]
      refine W_for (σ:=RW2) (M:=(mskOf (pol1.mask 4) (pol1.gc 4) (pol1.acts 4) 0 21)) rfl (fun x=>(⟨200,[(24,I x.at_),(22,.sl false ((endsL g.ins (stateL g.ins [0]) zs).map I)),(21,I i),(20,.sl false [txAV xs,txAV tx,txAV (xs++xs),txAV []]),(19,.rf H1.length 1 0 0),(17,.rf D 1 0 0),(3,I cache)],x.H⟩:St))
       (fun x=>x.at_≤zs.length+1∧DI g.ins (stateL g.ins [0]) (q+1) (fun j=>j=H1.length∨j=x.LB) D C a3 (endsC g.ins (q+1) (stateL g.ins [0]) zs c2 (zs.length+1)) x.H∧RI g (q+1) H1.length x.LB (endsC g.ins (q+1) (stateL g.ins [0]) zs c2 x.at_) x.H) (fun x=>zs.length+1 - x.at_) ⟨0,H3,LB⟩ ?_ ⟨Nat.zero_le _,d3,r3⟩ _ rfl
      rintro⟨at_,H4,LB4⟩ ⟨p1,p2,p3⟩
      simp only at p1 p2 p3 ⊢
      have hm4:=hem at_
      have hmu4:=hmul at_ p1
      by_cases hat:at_≤zs.length
      ·obtain⟨_,⟨LB5,H5,rfl,r5,fr5⟩,h21⟩:=kf21r p3 hl1 hN hw1 ho hb.2 zs (by omega) at_ hat (by omega)
       have hat':=endsL_at g.ins (stateL g.ins [0]) zs (n:=at_) (by omega)
       have hat2:((endsL g.ins (stateL g.ins [0]) zs).map I)[at_]?=some (I (runL g.ins (zs.drop at_) at_ (stateL g.ins [0]) (-1))):=by rw[List.getElem?_map,hat'];rfl
       simp +contextual (disch:=omega) only[Tryz.f4,dd4,go_sem,↓reduceIte,evAppend,List.reduceReplicate,Nat.reduceAdd,Nat.reduceSub,reduceCtorEq,Nat.reduceLeDiff,Nat.reduceMul,Nat.reduceLT,Nat.reduceEqDiff,Int.reduceBNe,Int.reduceBEq,Int.reduceEq,Int.reduceLT,Int.reduceLE,Int.reduceGT,Int.reduceGE,List.map_append,mu4,Nat.reduceBEq,↓wrap_up,↓wrap_down,↓wrap_pred,↓wrap_sub_nat,Int.reduceToNat,hz,hat2,h21]
       repeat' (first|intro _|apply And.intro|(unfold dOk;kernel_rfl)|exact St.beq_refl _|(show altO _ _ _ _=true;kernel_rfl)|(show (_ || _)=true;kernel_rfl)|(show (_ && _)=true;kernel_rfl))
       all_goals exact⟨⟨at_+1,H5,LB5⟩,⟨by simp only;omega,p2.afterRef fr5 r5,r5⟩,by simp only;omega,rfl⟩
      ·obtain rfl:at_=zs.length+1:=by omega
       have h10b:=f12 cache ((zs.length+1:Nat):Int) hc (by omega)
       have harb:=around_lt (n:=cache) (m:=((zs.length+1:Nat):Int)) (by omega)
       obtain⟨v,hv2⟩:∃ v:Nat,aroundI cache ((zs.length+1:Nat):Int)=v:=⟨(aroundI cache ((zs.length+1:Nat):Int)).toNat,by omega⟩
       rw[hv2]at h10b harb
       obtain⟨_,⟨H5,a5,rfl,d5,le5,low5⟩,h22⟩:=kf13e p2 ⟨hl1,hw1,hb.2⟩ hso hss zs (by omega) v (by omega) (by omega)
       have r5:=p3.low low5
       obtain⟨_,⟨LB6,H6,rfl,r6,fr6⟩,h21⟩:=kf21r r5 hl1 hN hw1 ho hb.2 zs (by omega) v (by omega) (by omega)
       have d6:=d5.afterRef fr6 r6
       have h23:=kf12s d6
       have hD6:=r6.d
       have hm6:=runC_made g.ins (q+1) (zs.drop v) (stateL g.ins [0]) ((endsC g.ins (q+1) (stateL g.ins [0]) zs c2 (zs.length+1)).need (q+1) (stateL g.ins [0]))
       have hm7:=CS.need_made (endsC g.ins (q+1) (stateL g.ins [0]) zs c2 (zs.length+1)) (q+1) (stateL g.ins [0])
       rw[List.length_drop]at hm6
       generalize runC g.ins (q+1) (zs.drop v) (stateL g.ins [0]) ((endsC g.ins (q+1) (stateL g.ins [0]) zs c2 (zs.length+1)).need (q+1) (stateL g.ins [0]))=c6 at *
       generalize runL g.ins (zs.drop v) v (stateL g.ins [0]) (-1)=e at *
       by_cases he:0≤e
       ·rw[decide_eq_true he,if_pos he]at h22
        simp +contextual (disch:=omega) only[Tryz.f4,dd4,go_sem,↓reduceIte,evAppend,List.reduceReplicate,Nat.reduceAdd,Nat.reduceSub,reduceCtorEq,Nat.reduceLeDiff,Nat.reduceMul,Nat.reduceLT,Nat.reduceEqDiff,Int.reduceBNe,Int.reduceBEq,Int.reduceEq,Int.reduceLT,Int.reduceLE,Int.reduceGT,Int.reduceGE,List.map_append,mu4,Nat.reduceBEq,↓wrap_up,↓wrap_down,↓wrap_pred,↓wrap_sub_nat,Int.reduceToNat,hz,h10b,h22,h21,h23,hD6,evEq,beq_self_eq_true,evMax]
        repeat' (first|intro _|apply And.intro|(unfold dOk;kernel_rfl)|exact St.beq_refl _|(show altO _ _ _ _=true;kernel_rfl)|(show (_ || _)=true;kernel_rfl)|(show (_ && _)=true;kernel_rfl))
        all_goals exact⟨⟨i+1,H6,a5,c6,LB6⟩,⟨by simp only;omega,d6,r6,by simp only;omega⟩,by simp only;omega,rfl⟩
       ·rw[decide_eq_false he,if_neg he]at h22
        simp +contextual (disch:=omega) only[Tryz.f4,dd4,go_sem,↓reduceIte,evAppend,List.reduceReplicate,Nat.reduceAdd,Nat.reduceSub,reduceCtorEq,Nat.reduceLeDiff,Nat.reduceMul,Nat.reduceLT,Nat.reduceEqDiff,Int.reduceBNe,Int.reduceBEq,Int.reduceEq,Int.reduceLT,Int.reduceLE,Int.reduceGT,Int.reduceGE,List.map_append,mu4,Nat.reduceBEq,↓wrap_up,↓wrap_down,↓wrap_pred,↓wrap_sub_nat,Int.reduceToNat,hz,h10b,h22,h21,h23,hD6,evEq,beq_self_eq_true,evMax]
        repeat' (first|intro _|apply And.intro|(unfold dOk;kernel_rfl)|exact St.beq_refl _|(show altO _ _ _ _=true;kernel_rfl)|(show (_ || _)=true;kernel_rfl)|(show (_ && _)=true;kernel_rfl))
        all_goals exact⟨⟨i+1,H6,a5,c6,LB6⟩,⟨by simp only;omega,d6,r6,by simp only;omega⟩,by simp only;omega,rfl⟩
     ·simp +contextual (disch:=omega) only[Tryz.f4,dd4,go_sem,↓reduceIte,evAppend,List.reduceReplicate,Nat.reduceAdd,Nat.reduceSub,reduceCtorEq,Nat.reduceLeDiff,Nat.reduceMul,Nat.reduceLT,Nat.reduceEqDiff,Int.reduceBNe,Int.reduceBEq,Int.reduceEq,Int.reduceLT,Int.reduceLE,Int.reduceGT,Int.reduceGE,List.map_append,mu4,Nat.reduceBEq,↓wrap_up,↓wrap_down,↓wrap_pred,↓wrap_sub_nat,Int.reduceToNat,h16]
      exact fzEq rfl rfl
    ·exact((((di1.push _).push _).push _).repro (fun i hp=>by rcases hp with rfl|rfl<;>simp) (fun i hp=>htd1 hp))
    ·refine⟨?_,⟨0,Nat.le_refl _,?_⟩,by show H1.length≠H1.length+1;omega,⟨by simp,by simp,by simp,by omega,by omega⟩,fun l h=>by cases h⟩
     ·show (H1++[_]++[_]++[_])[H1.length]?=_
      rw[List.append_assoc,List.append_assoc,List.getElem?_append_right (Nat.le_refl _)];simp
     ·show (H1++[_]++[_]++[_])[H1.length+1]?=_
      rw[List.append_assoc,List.append_assoc,List.getElem?_append_right (by omega)];simp
   ·obtain⟨H1,h18,low⟩:=kf9_bad g hb 3 [.row 3 [prgAV g] 0,.row 10 [patAV ⟨re,caps,false⟩] 0] hacc
    have hH1:H1[0]?=some (.row 3 [prgAV g] 0):=by rw[low.2 0 (by simp)];rfl
    generalize acceptG g=e at *
    simp +contextual (disch:=omega) only[Tryz.f4,dd4,go_sem,↓reduceIte,evAppend,List.reduceReplicate,Nat.reduceAdd,Nat.reduceSub,reduceCtorEq,Nat.reduceLeDiff,Nat.reduceMul,Nat.reduceLT,Nat.reduceEqDiff,Int.reduceBNe,Int.reduceBEq,Int.reduceEq,Int.reduceLT,Int.reduceLE,Int.reduceGT,Int.reduceGE,List.map_append,mu4,Nat.reduceBEq,↓wrap_up,↓wrap_down,↓wrap_pred,↓wrap_sub_nat,Int.reduceToNat,hl8,hpok,htk,h9,h7,h8,h17,h14,h18,hH1,h16]
    exact fzEq rfl rfl
end Go.Ev
