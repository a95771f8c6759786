/- Functions of the program, each with what it computes; no further conditions. -/
import Derived.Test.YtjgmfjneajcbmaaR06
import Derived.Test.YtjgmfjneajcbmaaR11
set_option linter.unusedVariables false
set_option linter.unusedSimpArgs false
namespace Go.Ev
attribute [local go_sem] eq_self bindW_some bindW_map bindW_ite bindW_iteN W_seq W_region W_draw W_cond W_condK W_ret W_skip W_exit W_scope W_label W_block blockK_norm blockK_ret blockK_exit WO_nil WO_cons WO_guard WD_nil WD_cons WD_guard guardV guardW_boolT guardW_boolF guardW_tup fpL_some fpL_none footprint footprint0 fineF thenK_norm thenK_ret thenK_exit put_some put_none ev_tmp ev_con ev_func ofK_int ofK_bool ofK_str ofK_nil ofK_agg ofC_int ofC_bool ofC_str ofC_nil ofC_nilp one_int one_bool one_str one_nil one_nilp evOp evBuiltin evCall evLen getElem_16 getElem_4 List.length_cons List.length_nil List.cons_append List.nil_append List.append_nil if_false if_true Bool.false_eq_true Bool.true_eq_false Option.map_some Option.map_none List.map_cons List.map_nil evBinOp evBin evUn asB_bool splitB_decide splitB_true splitB_false splitB_beq splitB_bne splitB_not endK_ret endK_norm List.getElem?_cons_zero List.getElem?_cons_succ evResults evResult packRes retK_norm retK_ret cellsAt mkVal evFieldAddr evField evIndexAddr evPart evStore evBuild evBuildSlice fillC fillE evSlice evMakeSlice evConvert getRow AV.cells List.head?_cons List.drop_zero List.drop_succ_cons List.take_zero List.take_succ_cons List.drop_nil List.take_nil List.all_cons List.all_nil AV.ok Bool.and_self Bool.and_true Bool.true_and and_self and_true true_and Nat.zero_add Nat.add_zero setCells splice pairsOk pairsX altW_none altW_some cfg_al WI_nil WI_cons FP.apart heapEq_refl sameAt_refl Bool.or_true Bool.true_or Bool.or_false srcElems elemsOf mutDst indDst evLenH evMapUpd evLookup getMp keyOk resOk strOf roundK_norm roundK_exit roundK_ret List.length_map List.getElem?_map Int.toNat_natCast decide_true decide_false Bool.not_true Bool.not_false List.set set_0 set_1 set_2 set_3 set_4 look_hit look lookD_hit lookD_cons lookD_nil ins_hit ins upd_hit upd rem1_hit rem1 dropT dropSt_eq initT cfg_dd cfg_bd cfg_ra actL_nil actL_cons act1 updT_hit updT frzB retE_norm retE_ret bndO bnd evEq eqCells not_false_eq_true not_true_eq_false toList_some Array.size_empty List.length_append List.map_append tySzE List.head?_drop Nat.mul_one sameAt_zero sameAt_two sameAt_three sameAt_four sameAt_five endE_norm endE_ret head_take1 List.contains_nil List.contains_cons Bool.or_self dlt_t dlt_f dle_t dle_f dgt_t dgt_f dge_t dge_f beq_t beq_f bne_t bne_f lt_T le_T nle_T nle_F Go.IntWalk.i64_in Go.IntWalk.i64_quo Go.IntWalk.rem_in room_ok ty0 ty3 ty4 ty22 ty42 ty51
section
attribute [local go_sem] ty100 ty101
open Go.Proofs Go.RowKit Go.IntWalk
set_option maxRecDepth 100000
set_option maxHeartbeats 8000000
abbrev NV (n:Nat):AV:=I (n:Int)
theorem plain_nv (l:List Nat):AV.plainL (l.map NV)=true:=by
 induction l with
 | nil=>rfl
 | cons a l ih=>simp[AV.plainL,ih];rfl
theorem plain_bools (l:List Bool):AV.plainL (l.map AV.bool)=true:=by
 induction l with
 | nil=>rfl
 | cons a l ih=>simp[AV.plainL,ih];rfl
def Leads (ins:List Ins):Prop:=∀ n i,ins[n]?=some i→(i.op=0∨i.op=1∨i.op=2∨i.op=3∨i.op=4∨i.op=5)∧(i.op=2∨i.op=3→0≤i.x∧i.x.toNat < ins.length)∧(i.op=2→0≤i.y∧i.y.toNat < ins.length)∧(i.op=1∨i.op=4∨i.op=5→n+1 < ins.length)
abbrev capL:List AV:=[.rf 5 1 0 0,.rf 4 1 0 0,.rf 0 1 0 0,.rf 1 1 0 0,.rf 6 1 0 0]
abbrev hpL (ins:List Ins) (s:VS) (K:List MB):List MB:=
 .row 1 [.sl false (ins.map insAV)] 0::.row 1 [.ms 2 1 s.r.length 0 s.r.length] 0::.row 1 (s.r.map NV) 0::.row 1 (s.a.map AV.bool) 0 ::
  .row 1 [.ms 3 1 ins.length 0 ins.length] 0::.row 1 [.bool s.c] 0::.row 1 [.clo 46 capL] 0::K
theorem get_last {α:Type} (K:List α) (x:α):(K++[x])[K.length]?=some x:=by simp
theorem set_last {α:Type} (K:List α) (x y:α):(K++[x]).set K.length y=K++[y]:=by simp
theorem sl_get {s:VS} {n N:Nat} (hs:s.Ok N) (hn:n < N):∃ b,s.a[n]?=some b:=⟨_,List.getElem?_eq_getElem (by rw[hs.len];exact hn)⟩
abbrev args46 (t:Bool) (ns:List Nat):List AV:=.sl t (ns.map NV)::capL
theorem hp_kept (ins:List Ins) (s s':VS) (K K':List MB):keptOk (hpL ins s K).length (hpL ins s K) (hpL ins s' (K++K'))=true:=by
 have h:∀(n:Nat) (K:List MB),keptOk n K (K++K')=true:=by
  intro n K
  induction K with
  | nil=>cases K'<;>rfl
  | cons x K ih=>simp[keptOk,MB.beq_refl,ih]
 have hp1:=fun n=>underL_plain n _ (plain_nv s'.r)
 have hp2:=fun n=>underL_plain n _ (plain_bools s'.a)
 simp[keptOk,MB.beq_refl,h,MB.under,AV.underL,AV.under,hp1,hp2]
theorem app_n {H:List MB} {i n:Nat} {rs:List Nat} {c:Nat} {t:Bool} (hi:getRow H i=some (1,rs.map NV,0)) (hn:rs.length=n) (hr:n+1≤4000000000) :
  evAppend Try.prog H 22 22 (.ms i 1 n 0 n) (.sl t [NV c])=some (.ms i 1 (n+1) 0 (n+1),H.set i (.row 1 ((rs++[c]).map NV) 0)):=by
 have hs:srcElems Try.prog H 3 (.sl t [NV c])=some [NV c]:=rfl
 rw[evAppend_end (e:=3) (by kernel_rfl) (by kernel_rfl) (k:=1) (by kernel_rfl) (by_:=8) (by kernel_rfl) (ze:=I 0) (by kernel_rfl) rfl (by omega) hs rfl hi (by rw[List.length_map];exact hn) (Nat.zero_le _) (room_ok (by simpa using hr) (by omega))]
 rw[List.map_append]
 rfl
theorem visits_take {ins:List Ins} {k j n:Nat} {ns:List Nat} {s:VS} (h:ns[j]?=some n):visits ins k (ns.take (j+1)) s=visit ins k n (visits ins k (ns.take j) s):=by
 rw[List.take_add_one,h]
 simp[visits]
theorem bools_at {s:VS} {n:Nat} {b:Bool} (h:s.a[n]?=some b):(s.a.map AV.bool)[n]?=some (.bool b):=by simp[h]
theorem fz_slp {t:Bool} {l:List AV} (h:AV.plainL l=true) (H:List MB):fz (.sl t l) H=some (.sl false l,H):=by
 simp only[fz,fzA,fzL_plain _ _ _ h]
theorem fr46 (t:Bool) (l:List AV) (h:AV.plainL l=true) (H:List MB):frzArgs pol1 46 0 (.sl t l::capL) H=some (.sl false l::capL,H):=by
 have h1:frzArgs pol1 46 1 capL H=some (capL,H):=frzArgs_mix _ _ _ rfl
 unfold frzArgs
 rw[if_neg (show ¬ pol1.byref 46 0=true by decide),fz_slp h]
 simp only
 rw[h1]
theorem f46 (ins:List Ins) (hl:ins.length≤1000000) (hw:Leads ins):∀(k:Nat) (t:Bool) (ns:List Nat) (s:VS) (K:List MB),ns.length≤1000000→(∀ n∈ns,n < ins.length)→s.Ok ins.length→s.open < k →
  call Try.prog pol1 46 (args46 t ns) (hpL ins s K)=some (.tup [],hpL ins (visits ins k ns s) K):=by
 intro k
 induction k with
 | zero=>intro t ns s K _ _ _ h;omega
 | succ k ih=>
   intro t ns s K hnl hns hs ho
   refine call_run2 (pol:=pol1) Try.func46 rfl rfl rfl rfl (fr46 t _ (plain_nv ns) _) ?_
   simp +contextual (disch:=omega) only[Try.f46,dd46,go_sem,↓reduceIte,evAppend,List.reduceReplicate,Nat.reduceAdd,Nat.reduceSub,reduceCtorEq,Nat.reduceLeDiff,Nat.reduceMul,Nat.reduceLT,Nat.reduceEqDiff,Int.reduceBNe,Int.reduceBEq,Int.reduceEq,Int.reduceLT,Int.reduceLE,Int.reduceGT,Int.reduceGE,mu46,Nat.reduceBEq,↓wrap_up,↓wrap_down,↓wrap_pred,↓wrap_sub_nat,Int.reduceToNat]
   refine W_for (σ:=Nat×List MB) (M:=(mskOf (pol1.mask 46) (pol1.gc 46) (pol1.acts 46) 0 1)) rfl (fun x=>(⟨66,[(12,I (x.1:Nat)),(11,I (ns.length:Nat)),(10,.sl false (ns.map NV)),(5,.rf 6 1 0 0),(4,.rf 1 1 0 0),(3,.rf 0 1 0 0),(2,.rf 4 1 0 0),(1,.rf 5 1 0 0)],hpL ins (visits ins (k+1) (ns.take x.1) s) (K++x.2)⟩:St)) (fun x=>x.1≤ns.length) (fun x=>ns.length - x.1) (0,[]) ?_ (Nat.zero_le _) _ ?_
   ·rintro⟨j,K'⟩ hj
    simp only at hj ⊢
    obtain⟨hs1,ho1⟩:=hs.visits (ins:=ins) (k:=k+1) (ns:=ns.take j)
    by_cases hjl:j < ns.length
    ·obtain⟨n,hn⟩:∃ n,ns[j]?=some n:=⟨_,List.getElem?_eq_getElem hjl⟩
     have hnN:=hns n (List.mem_of_getElem? hn)
     have hstep:=visits_take (ins:=ins) (k:=k+1) (s:=s) hn
     generalize visits ins (k+1) (ns.take j) s=s1 at *
     have hget:(ns.map NV)[j]?=some (NV n):=by simp[hn]
     obtain⟨b,hb⟩:=sl_get hs1 hnN
     have hb':=bools_at hb
     have hlen:=hs1.len
     have hsame:s1.c=true∨b=true→visits ins (k+1) (ns.take (j+1)) s=s1:=by
      intro h
      rw[hstep]
      simp only[visit]
      rw[if_pos (by rcases h with h|h<;>simp[h,hb])]
     by_cases hc:s1.c=true
     ·simp +contextual (disch:=omega) only[Try.f46,dd46,go_sem,↓reduceIte,evAppend,List.reduceReplicate,Nat.reduceAdd,Nat.reduceSub,reduceCtorEq,Nat.reduceLeDiff,Nat.reduceMul,Nat.reduceLT,Nat.reduceEqDiff,Int.reduceBNe,Int.reduceBEq,Int.reduceEq,Int.reduceLT,Int.reduceLE,Int.reduceGT,Int.reduceGE,mu46,Nat.reduceBEq,↓wrap_up,↓wrap_down,↓wrap_pred,↓wrap_sub_nat,Int.reduceToNat,hget,hb',hc]
      exact⟨(j+1,K'),hjl,by show ns.length - (j+1) < _;omega,by rw[hsame (.inl hc)];rfl⟩
     have hc':s1.c=false:=by simpa using hc
     cases b with
     | true=>
       simp +contextual (disch:=omega) only[Try.f46,dd46,go_sem,↓reduceIte,evAppend,List.reduceReplicate,Nat.reduceAdd,Nat.reduceSub,reduceCtorEq,Nat.reduceLeDiff,Nat.reduceMul,Nat.reduceLT,Nat.reduceEqDiff,Int.reduceBNe,Int.reduceBEq,Int.reduceEq,Int.reduceLT,Int.reduceLE,Int.reduceGT,Int.reduceGE,mu46,Nat.reduceBEq,↓wrap_up,↓wrap_down,↓wrap_pred,↓wrap_sub_nat,Int.reduceToNat,hget,hb',hc',hlen]
       exact⟨(j+1,K'),hjl,by show ns.length - (j+1) < _;omega,by rw[hsame (.inr rfl)];rfl⟩
     | false=>
       obtain⟨i,hi⟩:∃ i,ins[n]?=some i:=⟨_,List.getElem?_eq_getElem hnN⟩
       have hi':(ins.map insAV)[n]?=some (insAV i):=by simp[hi]
       obtain⟨w0,w1,w2,w3⟩:=hw n i hi
       have hset:(s1.a.map AV.bool).set n (.bool true)=(s1.mark n).a.map AV.bool:=by simp[VS.mark,List.map_set]
       rw[show visit ins (k+1) n s1=_ by simp only[visit];rw[if_neg (by simp[hc',hb])],hi]at hstep
       simp only at hstep
       have hsm:=hs1.small
       have happ:∀(x y:MB) (K:List MB) (t:Bool),evAppend Try.prog (x::y::.row 1 (s1.r.map NV) 0::K) 22 22 (.ms 2 1 s1.r.length 0 s1.r.length) (.sl t [NV n])=some (.ms 2 1 (s1.r.length+1) 0 (s1.r.length+1),x::y::.row 1 ((s1.r++[n]).map NV) 0::K):=
        fun x y K t=>app_n rfl rfl (by omega)
       have hgl:=fun x:MB=>get_last (K++K') x
       have hsl:=fun x y:MB=>set_last (K++K') x y
       rw[List.length_append]at hgl hsl
       have hom:=open_mark (s:=s1) (n:=n) (by simpa using hb)
       have hmk:=hs1.mark (n:=n)
       have hom2:(s1.mark n).open < k:=by omega
       have hcall:∀(ns:List Nat) (J:MB),ns.length≤1000000→(∀ n∈ns,n < ins.length)→call Try.prog pol1 46 (.sl true (ns.map NV)::capL)
         (.row 1 [.sl false (ins.map insAV)] 0::.row 1 [.ms 2 1 s1.r.length 0 s1.r.length] 0::.row 1 (s1.r.map NV) 0::.row 1 ((s1.mark n).a.map AV.bool) 0 ::
           .row 1 [.ms 3 1 ins.length 0 ins.length] 0::.row 1 [.bool false] 0::.row 1 [.clo 46 capL] 0::(K++K'++[J]))=some (.tup [],hpL ins (visits ins k ns (s1.mark n)) (K++K'++[J])):=by
        intro ns J h1 h2
        have e:s1.mark n=⟨s1.r,s1.a.set n true,false⟩:=by simp[VS.mark,hc']
        rw[e]at hmk hom2 ⊢
        exact ih true ns ⟨s1.r,s1.a.set n true,false⟩ (K++K'++[J]) h1 h2 hmk hom2
       by_cases h0:i.op=0
       ·rw[if_pos h0]at hstep
        simp +contextual (disch:=omega) only[Try.f46,dd46,go_sem,↓reduceIte,List.reduceReplicate,Nat.reduceAdd,Nat.reduceSub,reduceCtorEq,Nat.reduceLeDiff,Nat.reduceMul,Nat.reduceLT,Nat.reduceEqDiff,Int.reduceBNe,Int.reduceBEq,Int.reduceEq,Int.reduceLT,Int.reduceLE,Int.reduceGT,Int.reduceGE,mu46,Nat.reduceBEq,↓wrap_up,↓wrap_down,↓wrap_pred,↓wrap_sub_nat,Int.reduceToNat,hget,hb',hc',hlen,hi',hset,h0,hgl,hsl,happ]
        refine⟨(j+1,K'++[.row 5 [.agg [I 0,I i.x,I i.y,I i.n,.sl false (i.set.map spanAV)]] 0]),hjl,by show ns.length - (j+1) < _;omega,?_⟩
        rw[hstep]
        simp only[hpL,VS.found,VS.mark,List.length_append,List.length_cons,List.length_nil,← List.append_assoc,List.map_append,List.map_cons,List.map_nil]
        rfl
       rw[if_neg h0]at hstep
       by_cases h1:i.op=1
       ·rw[if_pos h1]at hstep
        simp +contextual (disch:=omega) only[Try.f46,dd46,go_sem,↓reduceIte,List.reduceReplicate,Nat.reduceAdd,Nat.reduceSub,reduceCtorEq,Nat.reduceLeDiff,Nat.reduceMul,Nat.reduceLT,Nat.reduceEqDiff,Int.reduceBNe,Int.reduceBEq,Int.reduceEq,Int.reduceLT,Int.reduceLE,Int.reduceGT,Int.reduceGE,mu46,Nat.reduceBEq,↓wrap_up,↓wrap_down,↓wrap_pred,↓wrap_sub_nat,Int.reduceToNat,hget,hb',hc',hlen,hi',hset,h1,hgl,hsl,happ]
        refine⟨(j+1,K'++[.row 5 [.agg [I 1,I i.x,I i.y,I i.n,.sl false (i.set.map spanAV)]] 0]),hjl,by show ns.length - (j+1) < _;omega,?_⟩
        rw[hstep]
        simp only[hpL,VS.found,VS.mark,List.length_append,List.length_cons,List.length_nil,← List.append_assoc,List.map_append,List.map_cons,List.map_nil]
        rfl
       rw[if_neg h1]at hstep
       by_cases h3:i.op=3
       ·rw[if_pos h3]at hstep
        obtain⟨x1,x2⟩:=w1 (.inr h3)
        obtain⟨x,hx⟩:∃ x:Nat,i.x=x:=⟨i.x.toNat,by omega⟩
        rw[hx]at hstep x2
        simp only[Int.toNat_natCast]at hstep x2
        have hc1:=fun J=>hcall [x] J (by simp) (by simpa using x2)
        simp only[List.map_cons,List.map_nil,visits_one]at hc1
        simp +contextual (disch:=omega) only[Try.f46,dd46,go_sem,↓reduceIte,List.reduceReplicate,Nat.reduceAdd,Nat.reduceSub,reduceCtorEq,Nat.reduceLeDiff,Nat.reduceMul,Nat.reduceLT,Nat.reduceEqDiff,Int.reduceBNe,Int.reduceBEq,Int.reduceEq,Int.reduceLT,Int.reduceLE,Int.reduceGT,Int.reduceGE,mu46,Nat.reduceBEq,↓wrap_up,↓wrap_down,↓wrap_pred,↓wrap_sub_nat,Int.reduceToNat,hget,hb',hc',hlen,hi',hset,h3,hgl,hsl,hx,hc1]
        refine⟨(j+1,K'++[.row 5 [.agg [I 3,I x,I i.y,I i.n,.sl false (i.set.map spanAV)]] 0]),hjl,by show ns.length - (j+1) < _;omega,?_⟩
        rw[hstep,← List.append_assoc]
        rfl
       rw[if_neg h3]at hstep
       by_cases h2:i.op=2
       ·rw[if_pos h2]at hstep
        obtain⟨x1,x2⟩:=w1 (.inl h2)
        obtain⟨y1,y2⟩:=w2 h2
        obtain⟨x,hx⟩:∃ x:Nat,i.x=x:=⟨i.x.toNat,by omega⟩
        obtain⟨y,hy⟩:∃ y:Nat,i.y=y:=⟨i.y.toNat,by omega⟩
        rw[hx]at hstep x2
        rw[hy]at hstep y2
        simp only[Int.toNat_natCast]at hstep x2 y2
        have hc1:=fun J=>hcall [x,y] J (by simp) (by simp[x2,y2])
        simp only[List.map_cons,List.map_nil,visits_two]at hc1
        simp +contextual (disch:=omega) only[Try.f46,dd46,go_sem,↓reduceIte,List.reduceReplicate,Nat.reduceAdd,Nat.reduceSub,reduceCtorEq,Nat.reduceLeDiff,Nat.reduceMul,Nat.reduceLT,Nat.reduceEqDiff,Int.reduceBNe,Int.reduceBEq,Int.reduceEq,Int.reduceLT,Int.reduceLE,Int.reduceGT,Int.reduceGE,mu46,Nat.reduceBEq,↓wrap_up,↓wrap_down,↓wrap_pred,↓wrap_sub_nat,Int.reduceToNat,hget,hb',hc',hlen,hi',hset,h2,hgl,hsl,hx,hy,hc1]
        refine⟨(j+1,K'++[.row 5 [.agg [I 2,I x,I y,I i.n,.sl false (i.set.map spanAV)]] 0]),hjl,by show ns.length - (j+1) < _;omega,?_⟩
        rw[hstep,← List.append_assoc]
        rfl
       rw[if_neg h2]at hstep
       by_cases h4:i.op=4
       ·rw[if_pos h4]at hstep
        have x2:=w3 (.inr (.inl h4))
        have hc1:=fun J=>hcall [n+1] J (by simp) (by simpa using x2)
        simp only[List.map_cons,List.map_nil,visits_one]at hc1
        simp +contextual (disch:=omega) only[Try.f46,dd46,go_sem,↓reduceIte,List.reduceReplicate,Nat.reduceAdd,Nat.reduceSub,reduceCtorEq,Nat.reduceLeDiff,Nat.reduceMul,Nat.reduceLT,Nat.reduceEqDiff,Int.reduceBNe,Int.reduceBEq,Int.reduceEq,Int.reduceLT,Int.reduceLE,Int.reduceGT,Int.reduceGE,mu46,Nat.reduceBEq,↓wrap_up,↓wrap_down,↓wrap_pred,↓wrap_sub_nat,Int.reduceToNat,hget,hb',hc',hlen,hi',hset,h4,hgl,hsl,hc1]
        refine⟨(j+1,K'++[.row 5 [.agg [I 4,I i.x,I i.y,I i.n,.sl false (i.set.map spanAV)]] 0]),hjl,by show ns.length - (j+1) < _;omega,?_⟩
        rw[hstep,← List.append_assoc]
        rfl
       rw[if_neg h4]at hstep
       have h5:i.op=5:=by omega
       simp +contextual (disch:=omega) only[Try.f46,dd46,go_sem,↓reduceIte,List.reduceReplicate,Nat.reduceAdd,Nat.reduceSub,reduceCtorEq,Nat.reduceLeDiff,Nat.reduceMul,Nat.reduceLT,Nat.reduceEqDiff,Int.reduceBNe,Int.reduceBEq,Int.reduceEq,Int.reduceLT,Int.reduceLE,Int.reduceGT,Int.reduceGE,mu46,Nat.reduceBEq,↓wrap_up,↓wrap_down,↓wrap_pred,↓wrap_sub_nat,Int.reduceToNat,hget,hb',hc',hlen,hi',hset,h5,hgl,hsl]
       refine⟨(j+1,K'++[.row 5 [.agg [I 5,I i.x,I i.y,I i.n,.sl false (i.set.map spanAV)]] 0]),hjl,by show ns.length - (j+1) < _;omega,?_⟩
       rw[hstep,← List.append_assoc]
       simp only[VS.mark,hc']
       rfl
    ·simp +contextual (disch:=omega) only[Try.f46,dd46,go_sem,↓reduceIte,evAppend,List.reduceReplicate,Nat.reduceAdd,Nat.reduceSub,reduceCtorEq,Nat.reduceLeDiff,Nat.reduceMul,Nat.reduceLT,Nat.reduceEqDiff,Int.reduceBNe,Int.reduceBEq,Int.reduceEq,Int.reduceLT,Int.reduceLE,Int.reduceGT,Int.reduceGE,mu46,Nat.reduceBEq,↓wrap_up,↓wrap_down,↓wrap_pred,↓wrap_sub_nat,Int.reduceToNat]
     rw[List.take_of_length_le (by omega)]
     exact retPol_keep rfl rfl rfl (hp_kept ins s _ K K') (by simp[hpL])
   ·simp only[List.take_zero,visits_nil,List.append_nil];rfl
theorem f30l (ins:List Ins) (hl:ins.length≤1000000) (hw:Leads ins) (ns:List Nat) (hnl:ns.length≤1000000) (hns:∀ n∈ns,n < ins.length) (H:List MB) :
  call Try.prog pol1 30 [.sl false (ins.map insAV),.sl false (ns.map NV)] H=some (.sl false ((stateL ins ns).map NV),H):=by
 have hcall:=f46 ins hl hw (ins.length+1) false ns (vs0 ins.length) [] hnl hns (vs0_ok _) (by rw[vs0_open];omega)
 have hpl:=plain_ins ins
 have hp2:=plain_nv ns
 refine call_run Try.func30 rfl rfl rfl rfl rfl rfl (fun _=>rfl) (by simp[AV.plain,AV.plainL,hpl,hp2]) (by simp[AV.plain,plain_nv]) ?_ H
 have hs:=(vs0_ok ins.length).visits (ins:=ins) (k:=ins.length+1) (ns:=ns)
 unfold stateL
 generalize hv:visits ins (ins.length+1) ns (vs0 ins.length)=s at *
 simp only[vs0,args46,hpL,capL,List.length_nil,List.map_nil,List.map_replicate]at hcall
 have hlen:=hs.1.len
 have hsm:=hs.1.small
 simp +contextual (disch:=omega) only[Try.f30,dd30,go_sem,↓reduceIte,evAppend,List.reduceReplicate,Nat.reduceAdd,Nat.reduceSub,reduceCtorEq,Nat.reduceLeDiff,Nat.reduceMul,Nat.reduceLT,Nat.reduceEqDiff,Int.reduceBNe,Int.reduceBEq,Int.reduceEq,Int.reduceLT,Int.reduceLE,Int.reduceGT,Int.reduceGE,mu30,Nat.reduceBEq,↓wrap_up,↓wrap_down,↓wrap_pred,↓wrap_sub_nat,Int.reduceToNat,hcall]
 exact⟨_,fz_row (k:=1) (els:=s.r.map NV) rfl (by simp) (plain_nv _)⟩
end
section
attribute [local go_sem] ty5 ty9 ty23 ty34 ty44 ty151 ty152
open Go.Proofs Go.RowKit Go.IntWalk
set_option maxRecDepth 100000
set_option maxHeartbeats 8000000
def acceptG (g:Prg):Int:=if validG g≠0 then validG g else if g.ins.any (fun i=>i.op == 5) then 10 else 0
theorem f27 (g:Prg) (hb:PrgB g) (H:List MB):call Try.prog pol1 27 [prgAV g] H=some (I (acceptG g),H):=by
 have hv:=f30 g hb
 obtain⟨hl,hs⟩:=hb
 refine call_run Try.func27 rfl rfl rfl rfl rfl rfl (fun _=>rfl) (by simp[AV.plain,AV.plainL,plain_ints,plain_span,plain_ins,plain_prg]) (by simp[AV.plain,AV.plainL,plain_ints,plain_span,plain_ins,plain_prg]) ?_ H
 unfold acceptG
 by_cases h1:validG g=0
 ·rw[h1]at hv
  rw[if_neg (by simp[h1])]
  simp +contextual (disch:=omega) only[Try.f27,dd27,go_sem,↓reduceIte,evAppend,List.reduceReplicate,Nat.reduceAdd,Nat.reduceSub,reduceCtorEq,Nat.reduceLeDiff,Nat.reduceMul,Nat.reduceLT,Nat.reduceEqDiff,Int.reduceBNe,Int.reduceBEq,Int.reduceEq,Int.reduceLT,Int.reduceLE,Int.reduceGT,Int.reduceGE,mu27,Nat.reduceBEq,↓wrap_up,↓wrap_down,↓wrap_pred,↓wrap_sub_nat,Int.reduceToNat,hv]
  refine W_count (M:=(mskOf (pol1.mask 27) (pol1.gc 27) (pol1.acts 27) 0 5)) rfl g.ins.length (fun i=>(⟨22,[(14,I i),(13,I g.ins.length),(12,.sl false (g.ins.map insAV))],[.row 3 [prgAV g] 0]⟩:St))
   (fun i=>∀ k p,k < i→g.ins[k]?=some p→p.op≠5) ?_ ?_ (fun k p h=>by omega) _ (by first|rfl|(refine prep_cut rfl (by rfl) (by rfl) (by rfl) ?_ ?_<;>simp[AV.underL,AV.under,MB.under,underL_plain,under_plain,plain_ints,plain_span,plain_ins,plain_prg,-List.map_take]))
  ·intro i hi hg
   obtain⟨p,hp⟩:∃ p,g.ins[i]?=some p:=⟨_,List.getElem?_eq_getElem hi⟩
   have hp':(g.ins.map insAV)[i]?=some (insAV p):=by simp[hp]
   by_cases h5:p.op=5
   ·have:g.ins.any (fun i=>i.op == 5)=true:=List.any_eq_true.2 ⟨p,List.mem_of_getElem? hp,by simp[h5]⟩
    rw[this]
    simp +contextual (disch:=omega) only[Try.f27,dd27,go_sem,↓reduceIte,evAppend,List.reduceReplicate,Nat.reduceAdd,Nat.reduceSub,reduceCtorEq,Nat.reduceLeDiff,Nat.reduceMul,Nat.reduceLT,Nat.reduceEqDiff,Int.reduceBNe,Int.reduceBEq,Int.reduceEq,Int.reduceLT,Int.reduceLE,Int.reduceGT,Int.reduceGE,mu27,Nat.reduceBEq,↓wrap_up,↓wrap_down,↓wrap_pred,↓wrap_sub_nat,Int.reduceToNat,hp',h5]
    exact fzEq rfl rfl
   ·simp +contextual (disch:=omega) only[Try.f27,dd27,go_sem,↓reduceIte,evAppend,List.reduceReplicate,Nat.reduceAdd,Nat.reduceSub,reduceCtorEq,Nat.reduceLeDiff,Nat.reduceMul,Nat.reduceLT,Nat.reduceEqDiff,Int.reduceBNe,Int.reduceBEq,Int.reduceEq,Int.reduceLT,Int.reduceLE,Int.reduceGT,Int.reduceGE,mu27,Nat.reduceBEq,↓wrap_up,↓wrap_down,↓wrap_pred,↓wrap_sub_nat,Int.reduceToNat,hp',h5]
    refine⟨fun k q hk hq=>?_,(by first|rfl|(refine prep_cut rfl (by rfl) (by rfl) (by rfl) ?_ ?_<;>simp[AV.underL,AV.under,MB.under,underL_plain,under_plain,plain_ints,plain_span,plain_ins,plain_prg,-List.map_take]))⟩
    rcases Nat.lt_succ_iff_lt_or_eq.1 hk with h|rfl
    ·exact hg k q h hq
    ·rw[hp]at hq;cases hq;exact h5
  ·intro hg
   have:g.ins.any (fun i=>i.op == 5)=false:=by
    rw[List.any_eq_false]
    intro p hp
    obtain⟨k,hk,e⟩:=List.getElem_of_mem hp
    have:=hg k p hk (by rw[← e];exact List.getElem?_eq_getElem hk)
    simp[this]
   rw[this]
   simp +contextual (disch:=omega) only[Try.f27,dd27,go_sem,↓reduceIte,evAppend,List.reduceReplicate,Nat.reduceAdd,Nat.reduceSub,reduceCtorEq,Nat.reduceLeDiff,Nat.reduceMul,Nat.reduceLT,Nat.reduceEqDiff,Int.reduceBNe,Int.reduceBEq,Int.reduceEq,Int.reduceLT,Int.reduceLE,Int.reduceGT,Int.reduceGE,mu27,Nat.reduceBEq,↓wrap_up,↓wrap_down,↓wrap_pred,↓wrap_sub_nat,Int.reduceToNat]
   exact fzEq rfl rfl
 ·rw[if_pos h1]
  simp +contextual (disch:=omega) only[Try.f27,dd27,go_sem,↓reduceIte,evAppend,List.reduceReplicate,Nat.reduceAdd,Nat.reduceSub,reduceCtorEq,Nat.reduceLeDiff,Nat.reduceMul,Nat.reduceLT,Nat.reduceEqDiff,Int.reduceBNe,Int.reduceBEq,Int.reduceEq,Int.reduceLT,Int.reduceLE,Int.reduceGT,Int.reduceGE,mu27,Nat.reduceBEq,↓wrap_up,↓wrap_down,↓wrap_pred,↓wrap_sub_nat,Int.reduceToNat,hv]
  exact fzEq rfl rfl
abbrev B8 (n:Int):AV:=.int .u8 n
theorem plain_b8 (l:List Int):AV.plainL (l.map B8)=true:=by
 induction l with
 | nil=>rfl
 | cons a l ih=>simp[AV.plainL,ih];rfl
def keyI (l:List Nat):List Int:=l.flatMap fun n=>[((n / 256 % 256:Nat):Int),((n % 256:Nat):Int)]
def keyS (l:List Nat):ByteArray:=strB (keyI l)
theorem bytesOf_b8 (l:List Int):bytesOf (l.map B8)=some l:=by
 induction l with
 | nil=>rfl
 | cons a l ih=>simp only[List.map_cons,bytesOf,if_true,ih,Option.map_some]
theorem keyI_snoc (l:List Nat) (n:Nat):keyI (l++[n])=keyI l++[((n / 256 % 256:Nat):Int),((n % 256:Nat):Int)]:=by simp[keyI]
theorem keyI_len (l:List Nat):(keyI l).length=2 * l.length:=by
 induction l with
 | nil=>rfl
 | cons a l ih=>simp only[keyI,List.flatMap_cons,List.length_append,List.length_cons,List.length_nil]at ih ⊢;omega
theorem shr8 (n:Nat):evShift .shr .i64 n 8=some (NV (n / 256)):=by
 simp only[evShift]
 simp
 rw[Int.fdiv_eq_ediv_of_nonneg _ (by decide)]
 rfl
theorem wrap8 (n:Nat):IntKind.u8.wrap n=((n % 256:Nat):Int):=by simp[IntKind.wrap,IntKind.signed,IntKind.bits]
theorem app_bb {H:List MB} {i n:Nat} {bs:List Int} {c d:Int} {t:Bool} (hi:getRow H i=some (1,bs.map B8,0)) (hn:bs.length=n) (hr:n+2≤4000000000) :
  evAppend Try.prog H 151 151 (.ms i 1 n 0 n) (.sl t [B8 c,B8 d])=some (.ms i 1 (n+2) 0 (n+2),H.set i (.row 1 ((bs++[c,d]).map B8) 0)):=by
 have hs:srcElems Try.prog H 5 (.sl t [B8 c,B8 d])=some [B8 c,B8 d]:=rfl
 rw[evAppend_end (e:=5) (by kernel_rfl) (by kernel_rfl) (k:=1) (by kernel_rfl) (by_:=1) (by kernel_rfl) (ze:=B8 0) (by kernel_rfl) rfl (by omega) hs rfl hi (by rw[List.length_map];exact hn) (Nat.zero_le _) (room_ok (by simpa using hr) (by omega))]
 rw[List.map_append]
 rfl
theorem f51 (l:List Nat) (hl:l.length≤1000000) (H:List MB):call Try.prog pol1 51 [.sl false (l.map NV)] H=some (.str (keyS l),H):=by
 have hp:=plain_nv l
 refine call_run Try.func51 rfl rfl rfl rfl rfl rfl (fun _=>rfl) (by simp[AV.plain,AV.plainL,hp]) (by simp[AV.plain]) ?_ H
 simp +contextual (disch:=omega) only[Try.f51,dd51,go_sem,↓reduceIte,evAppend,List.reduceReplicate,Nat.reduceAdd,Nat.reduceSub,reduceCtorEq,Nat.reduceLeDiff,Nat.reduceMul,Nat.reduceLT,Nat.reduceEqDiff,Int.reduceBNe,Int.reduceBEq,Int.reduceEq,Int.reduceLT,Int.reduceLE,Int.reduceGT,Int.reduceGE,mu51,Nat.reduceBEq,↓wrap_up,↓wrap_down,↓wrap_pred,↓wrap_sub_nat,Int.reduceToNat]
 refine W_count (M:=(mskOf (pol1.mask 51) (pol1.gc 51) (pol1.acts 51) 0 3)) rfl l.length (fun i=>(⟨27,[(12,I i),(11,I l.length),(10,.sl false (l.map NV)),(3,.ms 0 1 (2 * i) 0 (2 * i))],[.row 1 ((keyI (l.take i)).map B8) 0]⟩:St)) (fun i=>True) ?_ ?_ trivial _ ?_
 ·intro i hi _
  obtain⟨n,hn⟩:∃ n,l[i]?=some n:=⟨_,List.getElem?_eq_getElem hi⟩
  have hn':(l.map NV)[i]?=some (NV n):=by simp[hn]
  have hlen:(keyI (l.take i)).length=2 * i:=by rw[keyI_len,List.length_take];omega
  have hnx:keyI (l.take (i+1))=keyI (l.take i)++[((n / 256 % 256:Nat):Int),((n % 256:Nat):Int)]:=by rw[List.take_add_one,hn];exact keyI_snoc _ _
  have happ:=fun(K:List MB) (c d:Int) (t:Bool)=>app_bb (H:=.row 1 ((keyI (l.take i)).map B8) 0::K) (i:=0) (c:=c) (d:=d) (t:=t) rfl hlen (by omega)
  have h1:=shr8 n
  have h2:=wrap8 (n / 256)
  have h3:=wrap8 n
  simp +contextual (disch:=omega) only[Try.f51,dd51,go_sem,↓reduceIte,List.reduceReplicate,Nat.reduceAdd,Nat.reduceSub,reduceCtorEq,Nat.reduceLeDiff,Nat.reduceMul,Nat.reduceLT,Nat.reduceEqDiff,Int.reduceBNe,Int.reduceBEq,Int.reduceEq,Int.reduceLT,Int.reduceLE,Int.reduceGT,Int.reduceGE,mu51,Nat.reduceBEq,↓wrap_up,↓wrap_down,↓wrap_pred,↓wrap_sub_nat,Int.reduceToNat,hn',h1,h2,h3,happ]
  rw[hnx]
  exact(by first|rfl|(refine prep_to (n:=2) (m:=⟨some [12,11,10,3],some 2,[]⟩) rfl rfl ?_ ?_ ?_<;>first|rfl|(simp[keepT,AV.underL,AV.under,MB.under,underL_plain,under_plain,underL_append,plain_ints,plain_span,plain_ins,plain_prg,-List.map_take,-List.map_replicate,-List.map_set,Nat.mul_add,plain_nv,plain_b8];done)|(simp[keepT,AV.underL,AV.under,MB.under,underL_plain,under_plain,underL_append,plain_ints,plain_span,plain_ins,plain_prg,-List.map_take,-List.map_replicate,-List.map_set,Nat.mul_add,plain_nv,plain_b8];omega)))
 ·intro _
  have hlen:(keyI l).length=2 * l.length:=keyI_len l
  have hb:=bytesOf_b8 (keyI l)
  rw[List.take_of_length_le (Nat.le_refl _)]
  have ht:((keyI l).map B8).take (2 * l.length)=(keyI l).map B8:=List.take_of_length_le (by simp[hlen])
  simp +contextual (disch:=omega) only[Try.f51,dd51,go_sem,↓reduceIte,evAppend,List.reduceReplicate,Nat.reduceAdd,Nat.reduceSub,reduceCtorEq,Nat.reduceLeDiff,Nat.reduceMul,Nat.reduceLT,Nat.reduceEqDiff,Int.reduceBNe,Int.reduceBEq,Int.reduceEq,Int.reduceLT,Int.reduceLE,Int.reduceGT,Int.reduceGE,mu51,Nat.reduceBEq,↓wrap_up,↓wrap_down,↓wrap_pred,↓wrap_sub_nat,Int.reduceToNat,hb,hlen,ht]
  exact fzEq rfl rfl
 ·simp only[List.take_zero,keyI,List.flatMap_nil,List.map_nil,Nat.mul_zero];exact(by first|rfl|(refine prep_to (n:=2) (m:=⟨some [12,11,10,3],some 2,[]⟩) rfl rfl ?_ ?_ ?_<;>first|rfl|(simp[keepT,AV.underL,AV.under,MB.under,underL_plain,under_plain,underL_append,plain_ints,plain_span,plain_ins,plain_prg,-List.map_take,-List.map_replicate,-List.map_set,plain_nv,plain_b8];done)|(simp[keepT,AV.underL,AV.under,MB.under,underL_plain,under_plain,underL_append,plain_ints,plain_span,plain_ins,plain_prg,-List.map_take,-List.map_replicate,-List.map_set,plain_nv,plain_b8];omega)))
def afterL (ins:List Ins) (l:List Nat) (x:Int):List Nat:=l.flatMap fun n=>match ins[n]? with
 | some i=>if i.op=1∧hasSpan i.set x=true then [n+1] else []
 | none=>[]
theorem afterL_snoc (ins:List Ins) (l:List Nat) (n:Nat) (x:Int):afterL ins (l++[n]) x=afterL ins l x++(match ins[n]? with
 | some i=>if i.op=1∧hasSpan i.set x=true then [n+1] else []
 | none=>[]):=by simp[afterL]
theorem afterL_len (ins:List Ins) (l:List Nat) (x:Int):(afterL ins l x).length≤l.length:=by
 induction l with
 | nil=>simp[afterL]
 | cons n l ih=>
   have:afterL ins (n::l) x=(match ins[n]? with
    | some i=>if i.op=1∧hasSpan i.set x=true then [n+1] else []
    | none=>[])++afterL ins l x:=by simp[afterL]
   rw[this,List.length_append,List.length_cons]
   split
   ·split<;>simp<;>omega
   ·simp;omega
theorem f52 (ins:List Ins) (hl:ins.length≤1000000) (hs:∀ i∈ins,i.set.length≤1000000) (l:List Nat) (hll:l.length≤1000000) (hln:∀ n∈l,n < ins.length) (x:Int) (H:List MB) :
  call Try.prog pol1 52 [.sl false (ins.map insAV),.sl false (l.map NV),I x] H=some (.sl false ((afterL ins l x).map NV),H):=by
 have hp:=plain_nv l
 have hpi:=plain_ins ins
 refine call_run Try.func52 rfl rfl rfl rfl rfl rfl (fun _=>rfl) (by simp[AV.plain,AV.plainL,hp,hpi]) (by simp[AV.plain,plain_nv]) ?_ H
 simp +contextual (disch:=omega) only[Try.f52,dd52,go_sem,↓reduceIte,evAppend,List.reduceReplicate,Nat.reduceAdd,Nat.reduceSub,reduceCtorEq,Nat.reduceLeDiff,Nat.reduceMul,Nat.reduceLT,Nat.reduceEqDiff,Int.reduceBNe,Int.reduceBEq,Int.reduceEq,Int.reduceLT,Int.reduceLE,Int.reduceGT,Int.reduceGE,mu52,Nat.reduceBEq,↓wrap_up,↓wrap_down,↓wrap_pred,↓wrap_sub_nat,Int.reduceToNat]
 refine W_count (M:=(mskOf (pol1.mask 52) (pol1.gc 52) (pol1.acts 52) 0 3)) rfl l.length (fun i=>(⟨38,[(12,I i),(11,I l.length),(10,.sl false (l.map NV)),(7,.ms 0 1 (afterL ins (l.take i) x).length 0 (afterL ins (l.take i) x).length),(2,I x),(0,.sl false (ins.map insAV))],[.row 1 ((afterL ins (l.take i) x).map NV) 0]⟩:St)) (fun i=>True) ?_ ?_ trivial _ ?_
 ·intro i hi _
  obtain⟨n,hn⟩:∃ n,l[i]?=some n:=⟨_,List.getElem?_eq_getElem hi⟩
  have hn':(l.map NV)[i]?=some (NV n):=by simp[hn]
  have hnN:=hln n (List.mem_of_getElem? hn)
  obtain⟨p,hq⟩:∃ p,ins[n]?=some p:=⟨_,List.getElem?_eq_getElem hnN⟩
  have hq':(ins.map insAV)[n]?=some (insAV p):=by simp[hq]
  have hnx:afterL ins (l.take (i+1)) x=afterL ins (l.take i) x++(if p.op=1∧hasSpan p.set x=true then [n+1] else []):=by rw[List.take_add_one,hn];exact(afterL_snoc _ _ _ _).trans (by rw[hq])
  have hlen:=afterL_len ins (l.take i) x
  rw[List.length_take]at hlen
  rw[hnx]
  generalize afterL ins (l.take i) x=r at *
  have happ:=fun(K:List MB) (t:Bool)=>app_n (H:=.row 1 (r.map NV) 0::K) (i:=0) (c:=n+1) (t:=t) rfl rfl (by omega)
  have hf:=f43 p.set x (hs p (List.mem_of_getElem? hq))
  by_cases h1:p.op=1
  ·cases h2:hasSpan p.set x with
   | true=>
     rw[h2]at hf
     rw[if_pos ⟨h1,rfl⟩]
     simp +contextual (disch:=omega) only[Try.f52,dd52,go_sem,↓reduceIte,List.reduceReplicate,Nat.reduceAdd,Nat.reduceSub,reduceCtorEq,Nat.reduceLeDiff,Nat.reduceMul,Nat.reduceLT,Nat.reduceEqDiff,Int.reduceBNe,Int.reduceBEq,Int.reduceEq,Int.reduceLT,Int.reduceLE,Int.reduceGT,Int.reduceGE,mu52,Nat.reduceBEq,↓wrap_up,↓wrap_down,↓wrap_pred,↓wrap_sub_nat,Int.reduceToNat,hn',hq',h1,hf,happ]
     exact(by first|rfl|(refine prep_to (n:=1) (m:=⟨some [12,11,10,7,2,0],some 1,[]⟩) rfl rfl ?_ ?_ ?_<;>first|rfl|(simp[keepT,AV.underL,AV.under,MB.under,underL_plain,under_plain,underL_append,plain_ints,plain_span,plain_ins,plain_prg,-List.map_take,-List.map_replicate,-List.map_set,plain_nv];done)|(simp[keepT,AV.underL,AV.under,MB.under,underL_plain,under_plain,underL_append,plain_ints,plain_span,plain_ins,plain_prg,-List.map_take,-List.map_replicate,-List.map_set,plain_nv];omega)))
   | false=>
     rw[h2]at hf
     rw[if_neg (by simp)]
     simp +contextual (disch:=omega) only[Try.f52,dd52,go_sem,↓reduceIte,List.reduceReplicate,Nat.reduceAdd,Nat.reduceSub,reduceCtorEq,Nat.reduceLeDiff,Nat.reduceMul,Nat.reduceLT,Nat.reduceEqDiff,Int.reduceBNe,Int.reduceBEq,Int.reduceEq,Int.reduceLT,Int.reduceLE,Int.reduceGT,Int.reduceGE,mu52,Nat.reduceBEq,↓wrap_up,↓wrap_down,↓wrap_pred,↓wrap_sub_nat,Int.reduceToNat,hn',hq',h1,hf]
     exact(by first|rfl|(refine prep_to (n:=1) (m:=⟨some [12,11,10,7,2,0],some 1,[]⟩) rfl rfl ?_ ?_ ?_<;>first|rfl|(simp[keepT,AV.underL,AV.under,MB.under,underL_plain,under_plain,underL_append,plain_ints,plain_span,plain_ins,plain_prg,-List.map_take,-List.map_replicate,-List.map_set,plain_nv];done)|(simp[keepT,AV.underL,AV.under,MB.under,underL_plain,under_plain,underL_append,plain_ints,plain_span,plain_ins,plain_prg,-List.map_take,-List.map_replicate,-List.map_set,plain_nv];omega)))
  ·rw[if_neg (by simp[h1])]
   simp +contextual (disch:=omega) only[Try.f52,dd52,go_sem,↓reduceIte,List.reduceReplicate,Nat.reduceAdd,Nat.reduceSub,reduceCtorEq,Nat.reduceLeDiff,Nat.reduceMul,Nat.reduceLT,Nat.reduceEqDiff,Int.reduceBNe,Int.reduceBEq,Int.reduceEq,Int.reduceLT,Int.reduceLE,Int.reduceGT,Int.reduceGE,mu52,Nat.reduceBEq,↓wrap_up,↓wrap_down,↓wrap_pred,↓wrap_sub_nat,Int.reduceToNat,hn',hq',h1]
   exact(by first|rfl|(refine prep_to (n:=1) (m:=⟨some [12,11,10,7,2,0],some 1,[]⟩) rfl rfl ?_ ?_ ?_<;>first|rfl|(simp[keepT,AV.underL,AV.under,MB.under,underL_plain,under_plain,underL_append,plain_ints,plain_span,plain_ins,plain_prg,-List.map_take,-List.map_replicate,-List.map_set,plain_nv];done)|(simp[keepT,AV.underL,AV.under,MB.under,underL_plain,under_plain,underL_append,plain_ints,plain_span,plain_ins,plain_prg,-List.map_take,-List.map_replicate,-List.map_set,plain_nv];omega)))
 ·intro _
  rw[List.take_of_length_le (Nat.le_refl _)]
  simp +contextual (disch:=omega) only[Try.f52,dd52,go_sem,↓reduceIte,evAppend,List.reduceReplicate,Nat.reduceAdd,Nat.reduceSub,reduceCtorEq,Nat.reduceLeDiff,Nat.reduceMul,Nat.reduceLT,Nat.reduceEqDiff,Int.reduceBNe,Int.reduceBEq,Int.reduceEq,Int.reduceLT,Int.reduceLE,Int.reduceGT,Int.reduceGE,mu52,Nat.reduceBEq,↓wrap_up,↓wrap_down,↓wrap_pred,↓wrap_sub_nat,Int.reduceToNat]
  exact⟨_,fz_row (k:=1) (els:=(afterL ins l x).map NV) rfl (by simp) (plain_nv _)⟩
 ·simp only[List.take_zero,afterL,List.flatMap_nil,List.map_nil,List.length_nil];exact(by first|rfl|(refine prep_to (n:=1) (m:=⟨some [12,11,10,7,2,0],some 1,[]⟩) rfl rfl ?_ ?_ ?_<;>first|rfl|(simp[keepT,AV.underL,AV.under,MB.under,underL_plain,under_plain,underL_append,plain_ints,plain_span,plain_ins,plain_prg,-List.map_take,-List.map_replicate,-List.map_set,plain_nv];done)|(simp[keepT,AV.underL,AV.under,MB.under,underL_plain,under_plain,underL_append,plain_ints,plain_span,plain_ins,plain_prg,-List.map_take,-List.map_replicate,-List.map_set,plain_nv];omega)))
end
end Go.Ev
/- The threads of package pike: the plain laws. -/
namespace Go.Ev
open Go.Proofs Go.RowKit Go.IntWalk
structure PS where
 ts:List (Nat×List Int)
 m:List Int
 c:Bool
 j:List (Nat×List Int)
def PS.mark (q:Nat) (s:PS) (n:Nat):PS:=⟨s.ts,s.m.set n ((q+1:Nat):Int),s.c,s.j⟩
def PS.found (q:Nat) (s:PS) (n:Nat) (r:List Int) (c:Bool):PS:=⟨s.ts++[(n,r)],s.m.set n ((q+1:Nat):Int),c,s.j.drop 1⟩
def regSet (r:List Int) (n:Nat) (q:Nat):List Int:=r.take n++[(q:Int)]++r.drop (n+1)
def pvisit (ins:List Ins) (q:Nat):Nat→Nat→List Int→PS→PS
 | 0,_,_,s=>s
 | k+1,n,r,s=>
   if s.c=true∨s.m[n]?=some ((q+1:Nat):Int) then s
   else match ins[n]? with
    | none=>s
    | some i=>
      if i.op=0 then s.found q n r true
      else if i.op=1 then s.found q n r false
      else if i.op=3 then pvisit ins q k i.x.toNat r (s.mark q n)
      else if i.op=2 then pvisit ins q k i.y.toNat r (pvisit ins q k i.x.toNat r (s.mark q n))
      else if i.op=4 then pvisit ins q k (n+1) (regSet r i.n.toNat q) (s.mark q n)
      else s.mark q n
def PS.vs (q:Nat) (s:PS):VS:=⟨s.ts.map (·.1),s.m.map (fun x=>x == ((q+1:Nat):Int)),s.c⟩
theorem vs_mark (q:Nat) (s:PS) (n:Nat):(s.mark q n).vs q=(s.vs q).mark n:=by
 simp[PS.vs,PS.mark,VS.mark,List.map_set]
theorem vs_found (q:Nat) (s:PS) (n:Nat) (r:List Int) (c:Bool):(s.found q n r c).vs q=(s.vs q).found n c:=by
 simp[PS.vs,PS.found,VS.found,List.map_set]
theorem vs_pvisit (ins:List Ins) (q:Nat):∀(k n:Nat) (r:List Int) (s:PS),s.m.length=ins.length→(pvisit ins q k n r s).vs q=visit ins k n (s.vs q)∧(pvisit ins q k n r s).m.length=ins.length
 | 0,n,r,s,h=>⟨rfl,h⟩
 | k+1,n,r,s,h=>by
   have hmk:(s.mark q n).m.length=ins.length:=by simp[PS.mark,h]
   simp only[pvisit,visit]
   by_cases hc:s.c=true∨s.m[n]?=some ((q+1:Nat):Int)
   ·rw[if_pos hc,if_pos (by
     rcases hc with hc|hc
     ·exact .inl hc
     ·exact .inr (by simp[PS.vs,hc]))]
    exact⟨rfl,h⟩
   ·rw[if_neg hc]
    cases hi:ins[n]? with
    | none=>
      simp only
      exact⟨by split<;>rfl,h⟩
    | some i=>
      have hn:n < s.m.length:=by rw[h];exact(List.getElem?_eq_some_iff.1 hi).1
      rw[if_neg (show ¬((s.vs q).c=true∨(s.vs q).a[n]?≠some false) by
       intro h2
       rcases h2 with h2|h2
       ·exact hc (.inl h2)
       ·apply h2
        have e:s.m[n]?=some s.m[n]:=List.getElem?_eq_getElem hn
        have:s.m[n]≠((q+1:Nat):Int):=fun e2=>hc (.inr (by rw[e,e2]))
        simp only[PS.vs,List.getElem?_map,e,Option.map_some]
        simpa using this)]
      simp only
      split
      ·exact⟨vs_found q s n r true,by simp[PS.found,h]⟩
      split
      ·exact⟨vs_found q s n r false,by simp[PS.found,h]⟩
      split
      ·rw[← vs_mark];exact vs_pvisit ins q k _ _ _ hmk
      split
      ·have h1:=vs_pvisit ins q k i.x.toNat r _ hmk
       have h2:=vs_pvisit ins q k i.y.toNat r _ h1.2
       rw[← vs_mark,← h1.1];exact h2
      split
      ·rw[← vs_mark];exact vs_pvisit ins q k _ _ _ hmk
      ·rw[← vs_mark];exact⟨rfl,hmk⟩
theorem regSet_len {r:List Int} {n:Nat} {q:Nat} (h:n < r.length):(regSet r n q).length=r.length:=by
 simp[regSet];omega
structure PS.Ok (R:Nat) (q:Nat) (s:PS):Prop where
 regs:∀ t∈s.ts,t.2.length=R
 marks:∀ x∈s.m,x≤((q+1:Nat):Int)
theorem PS.Ok.pvisit {R:Nat} {q:Nat} {ins:List Ins} (hs:∀ i∈ins,i.op=4→0≤i.n∧i.n.toNat < R):∀ {k n:Nat} {r:List Int} {s:PS},s.Ok R q→r.length=R→(pvisit ins q k n r s).Ok R q
 | 0,n,r,s,h,_=>h
 | k+1,n,r,s,h,hr=>by
   have hm:(s.mark q n).Ok R q:=⟨h.regs,fun x hx=>by
    rcases List.mem_or_eq_of_mem_set hx with h1|h1
    ·exact h.marks x h1
    ·omega⟩
   have hf:∀ c,(s.found q n r c).Ok R q:=fun c=>⟨fun t ht=>by
    rcases List.mem_append.1 ht with h1|h1
    ·exact h.regs t h1
    ·rw[List.mem_singleton.1 h1];exact hr,hm.marks⟩
   simp only[Go.Ev.pvisit]
   split
   ·exact h
   split
   ·exact h
   rename_i i hi
   split
   ·exact hf true
   split
   ·exact hf false
   split
   ·exact hm.pvisit hs hr
   split
   ·exact(hm.pvisit hs hr).pvisit hs hr
   split
   ·rename_i h4
    have:=hs i (List.mem_of_getElem? hi) h4
    exact hm.pvisit hs (by rw[regSet_len (by omega)];exact hr)
   ·exact hm
def stepO (ins:List Ins) (q k:Nat) (x:Int) (t:Nat×List Int) (s:PS):PS:=match ins[t.1]? with
 | some i=>if i.op=1∧hasSpan i.set x=true then pvisit ins q k (t.1+1) t.2 s else s
 | none=>s
def stepT (ins:List Ins) (q k:Nat) (x:Int) (ts:List (Nat×List Int)) (s:PS):PS:=ts.foldl (fun s t=>stepO ins q k x t s) s
theorem stepT_snoc (ins:List Ins) (q k:Nat) (x:Int) (ts:List (Nat×List Int)) (t:Nat×List Int) (s:PS):stepT ins q k x (ts++[t]) s=stepO ins q k x t (stepT ins q k x ts s):=by simp[stepT]
theorem stepT_cons (ins:List Ins) (q k:Nat) (x:Int) (ts:List (Nat×List Int)) (t:Nat×List Int) (s:PS):stepT ins q k x (t::ts) s=stepT ins q k x ts (stepO ins q k x t s):=rfl
theorem visits_append (ins:List Ins) (k:Nat) (a b:List Nat) (s:VS):visits ins k (a++b) s=visits ins k b (visits ins k a s):=by simp[visits]
theorem vs_stepO (ins:List Ins) (q k:Nat) (x:Int) (t:Nat×List Int) (s:PS) (h:s.m.length=ins.length):(stepO ins q k x t s).vs q=visits ins k (afterL ins [t.1] x) (s.vs q)∧(stepO ins q k x t s).m.length=ins.length:=by
 have e:afterL ins [t.1] x=(match ins[t.1]? with
  | some i=>if i.op=1∧hasSpan i.set x=true then [t.1+1] else []
  | none=>[]):=by simp[afterL]<;>rfl
 rw[e]
 unfold stepO
 cases hi:ins[t.1]? with
 | none=>exact⟨rfl,h⟩
 | some i=>
   simp only
   by_cases hc:i.op=1∧hasSpan i.set x=true
   ·rw[if_pos hc,if_pos hc]
    exact vs_pvisit ins q k (t.1+1) t.2 s h
   ·rw[if_neg hc,if_neg hc]
    exact⟨rfl,h⟩
theorem vs_stepT (ins:List Ins) (q k:Nat) (x:Int):∀(ts:List (Nat×List Int)) (s:PS),s.m.length=ins.length→(stepT ins q k x ts s).vs q=visits ins k (afterL ins (ts.map (·.1)) x) (s.vs q)∧(stepT ins q k x ts s).m.length=ins.length
 | [],s,h=>⟨rfl,h⟩
 | t::ts,s,h=>by
   have e:afterL ins ((t::ts).map (·.1)) x=afterL ins [t.1] x++afterL ins (ts.map (·.1)) x:=by simp[afterL]
   obtain⟨h1,h2⟩:=vs_stepO ins q k x t s h
   rw[e,visits_append,← h1,stepT_cons]
   exact vs_stepT ins q k x ts _ h2
theorem PS.Ok.stepO {R q k:Nat} {ins:List Ins} {x:Int} (hs:∀ i∈ins,i.op=4→0≤i.n∧i.n.toNat < R) {t:Nat×List Int} {s:PS} (h:s.Ok R q) (ht:t.2.length=R):(stepO ins q k x t s).Ok R q:=by
 unfold Go.Ev.stepO
 split
 ·split
  ·exact h.pvisit hs ht
  ·exact h
 ·exact h
theorem PS.Ok.stepT {R q k:Nat} {ins:List Ins} {x:Int} (hs:∀ i∈ins,i.op=4→0≤i.n∧i.n.toNat < R):∀ {ts:List (Nat×List Int)} {s:PS},s.Ok R q→(∀ t∈ts,t.2.length=R)→(stepT ins q k x ts s).Ok R q
 | [],s,h,_=>h
 | t::ts,s,h,ht=>by
   rw[stepT_cons]
   exact(h.stepO hs (ht t (.head _))).stepT hs (fun u hu=>ht u (.tail _ hu))
theorem vs_fresh {q:Nat} {s:PS} {N:Nat} (hm:s.m.length=N) (ho:∀ x∈s.m,x≤(q:Int)) (hc:s.c=false) (ht:s.ts=[]):s.vs q=vs0 N:=by
 unfold PS.vs vs0
 rw[hc,ht]
 congr 1
 rw[← hm]
 apply List.ext_getElem
 ·simp
 ·intro i h1 h2
  have hi:i < s.m.length:=by simpa using h1
  have:=ho _ (List.getElem_mem hi)
  simp only[List.getElem_map,List.getElem_replicate]
  simp
  omega
def capsL (c:Nat) (r:List Int):List (Int×Int):=(List.range c).map fun i=>if r.getD (2 * i) 0 = -1∨r.getD (2 * i+1) 0 = -1 then(-1,-1) else(r.getD (2 * i) 0,r.getD (2 * i+1) 0)
end Go.Ev
