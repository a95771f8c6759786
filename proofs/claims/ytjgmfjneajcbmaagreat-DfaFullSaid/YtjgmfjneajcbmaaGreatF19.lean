/- Functions of the program, each with what it computes; no further conditions. -/
import Derived.Test.YtjgmfjneajcbmaaGreatF06
import Derived.Test.YtjgmfjneajcbmaaGreatF13
import Derived.Test.YtjgmfjneajcbmaaGreatF18
import Derived.Test.YtjgmfjneajcbmaaGreatF12
import Derived.Test.YtjgmfjneajcbmaaGreatF14
set_option linter.unusedVariables false
set_option linter.unusedSimpArgs false
namespace Go.Ev
attribute [local go_sem] evAppend evBin AV.cells frzB List.length_append List.map_append
section
open Go.Proofs Go.RowKit Go.IntWalk
set_option maxRecDepth 100000
set_option maxHeartbeats 4000000
abbrev insAVt (i:Ins):AV:=.agg [I i.op,I i.x,I i.y,I i.n,.sl true (i.set.map spanAV)]
def T21 (l:List Int) (n caps:Int) (runes:Bool):List Ins→St
 | []=>(⟨119,[(5,I ((0:Nat):Int)),(4,.rf 1 1 0 0),(3,I n),(2,.rf 0 1 0 0),(0,.sl false (l.map I))],[.row 3 [.agg [.sl true [],I 0,.bool false]] 0,.row 3 [.agg [.sl true [],I caps,.bool runes]] 0]⟩:St)
 | x::xs=>(⟨119,[(5,I ((xs.length+1:Nat):Int)),(4,.rf 1 1 0 0),(3,I n),(2,.rf 0 1 0 0),(0,.sl false (l.map I))],[.row 3 [.agg [.sl true [],I 0,.bool false]] 0,.row 3 [.agg [.ms 3 5 (xs.length+1) 0 (xs.length+1),I caps,.bool runes]] 0,.row 5 [insAVt x] 0,.row 5 (insAVt x::xs.map insAVt) 0]⟩:St)
structure SomeOk (g:Prg):Prop where
 len:1≤g.ins.length∧g.ins.length≤12
 caps:0≤g.caps∧g.caps≤2
 ok:∀ i∈g.ins,okIns g.ins.length g.caps g.runes i=true
 last:lastGood g=true
 sets:∀ i∈g.ins,i.set.length≤1
theorem underL_insT (n:Nat) (l:List Ins):AV.underL n (l.map insAVt)=true:=by
 induction l with
 | nil=>rfl
 | cons a l ih=>simp[AV.underL,AV.under,underL_plain,plain_span,ih]
theorem fzT_one (j:List AV→List MB→Option (List AV×List MB)) (i:Ins) (H:List MB):fzA j (insAVt i) H=some (insAV i,H):=by
 simp only[fzA_agg,fzL,fzA_int,fzA_sl,fzL_plain _ _ _ (plain_span i.set)]
theorem fz_allT {id tot:Nat} {ins:List Ins} {caps:Int} {runes:Bool} {H:List MB} (hr:getRow H id=some (5,ins.map insAVt,0)) (hn:tot=ins.length) :
  ∃ H',fz (.agg [.ms id 5 tot 0 tot,I caps,.bool runes]) H=some (prgAV ⟨ins,caps,runes⟩,H'):=by
 subst hn
 simp only[fz,fzA_agg,fzL]
 rw[fzA_ms (n:=5) (k:=5) (ys:=ins.map insAV) hr (by simp) (by simp) (by
  rw[List.drop_zero,List.take_of_length_le (by simp)];exact fzL_map (fun i H=>fzT_one _ i H) _ _)]
 exact⟨_,rfl⟩
theorem lastGood_app (xs:List Ins) (x:Ins) (c:Int) (r:Bool) (h:x.op=0∨x.op=2∨x.op=3):lastGood ⟨xs++[x],c,r⟩=true:=by
 simp[lastGood];omega
theorem ok_zero (n:Nat) (c:Int) (r:Bool):okIns n c r ⟨0,0,0,0,[]⟩=true:=by simp[okIns]
theorem next21 {n:Nat} {caps:Int} {runes:Bool} {xs:List Ins} {x:Ins} (h1:xs.length < n) (h2:∀ i∈xs,okIns n caps runes i=true∧i.set.length≤1) (hx:okIns n caps runes x=true∧x.set.length≤1)
  (hl:xs.length+1=n→x.op=0∨x.op=2∨x.op=3) :
  (xs++[x]).length≤n∧(∀ i∈xs++[x],okIns n caps runes i=true∧i.set.length≤1)∧((xs++[x]).length=n→lastGood ⟨xs++[x],caps,runes⟩=true):=
 ⟨by simp;omega,fun i hi=>by
   rcases List.mem_append.1 hi with h|h
   ·exact h2 i h
   ·rw[List.mem_singleton.1 h];exact hx,fun h=>lastGood_app _ _ _ _ (hl (by simpa using h))⟩
theorem f21 (l:List Int) (hl:∀ x∈l,In64 x):∃ r,(∃ g,SomeOk g∧r=prgAV g)∧∀ H,call Tryz.prog pol1 9 [.sl false (l.map I)] H=some (r,H):=by
 obtain⟨n,hn1,hn2,hn3⟩:∃ n:Nat,(n:Int)=1+pickI l 0 12∧1≤n∧n≤12:=by
  have:=pick_lt (l:=l) (i:=0) (m:=12) (by omega)
  exact⟨(1+pickI l 0 12).toNat,by omega,by omega,by omega⟩
 have hw:IntKind.i64.wrap (1+pickI l 0 12)=n:=by rw[i64_in]<;>omega
 have hcaps:=pick_lt (l:=l) (i:=1) (m:=3) (by omega)
 refine call_runA Tryz.func9 rfl rfl rfl rfl rfl rfl (fun _=>rfl) (by simp[AV.plain,AV.plainL,plain_ints,plain_span,plain_ins,plain_prg]) ?_ ?_
 ·rintro _ ⟨g,_,rfl⟩;exact plain_prg g
 have hP:=fun i m h=>f57 l i m hl h
 simp +contextual (disch:=omega) only[Tryz.f9,dd9,go_sem,↓reduceIte,W_block,List.reduceReplicate,Nat.reduceAdd,Nat.reduceSub,reduceCtorEq,Nat.reduceLeDiff,Nat.reduceMul,Nat.reduceLT,Nat.reduceEqDiff,Int.reduceBNe,Int.reduceBEq,Int.reduceEq,Int.reduceLT,Int.reduceLE,Int.reduceGT,Int.reduceGE,mu9,Nat.reduceBEq,↓wrap_up,↓wrap_down,↓wrap_pred,↓wrap_sub_nat,Int.reduceToNat,hP 0 12 (by omega),hP 1 3 (by omega),hP 2 3 (by omega),hw]
 generalize pickI l 1 3=caps at *
 generalize (pickI l 2 3 == 0)=runes at *
 refine W_for (M:=(mskOf (pol1.mask 9) (pol1.gc 9) (pol1.acts 9) 0 4)) rfl (T21 l n caps runes) (fun xs=>xs.length≤n∧(∀ i∈xs,okIns n caps runes i=true∧i.set.length≤1)∧(xs.length=n→lastGood ⟨xs,caps,runes⟩=true)) (fun xs=>n - xs.length) [] ?_ ⟨by simp,by simp,by simp;omega⟩ _ (by first|rfl|(refine prep_cut rfl (by rfl) (by rfl) (by rfl) ?_ ?_<;>simp[AV.underL,AV.under,MB.under,underL_plain,under_plain,plain_ints,plain_span,plain_ins,plain_prg,-List.map_take]))
 rintro xs ⟨h1,h2,h3⟩
 by_cases hlt:xs.length < n
 ·have hk:=pick_lt (l:=l) (i:=3+xs.length) (m:=1048576) (by omega)
  have hPk:=hP (3+xs.length) 1048576 (by omega)
  generalize pickI l (3+xs.length) 1048576=k at *
  have hm3:∀ z:Int,0 < caps→0≤z % (2 * caps)∧z % (2 * caps) < 2 * caps:=fun z h=>⟨Int.emod_nonneg _ (by omega),Int.emod_lt_of_pos _ (by omega)⟩
  have hmod:∀ z:Int,0≤z % n∧z % n < n:=fun z=>⟨Int.emod_nonneg _ (by omega),Int.emod_lt_of_pos _ (by omega)⟩
  have hm1:=fun z=>(hmod z).1
  have hm2:=fun z=>(hmod z).2
  cases xs with
  | nil=>
    simp only[T21]
    simp only[List.length_nil]at hPk hlt
    simp +contextual (disch:=omega) only[Tryz.f9,dd9,go_sem,↓reduceIte,List.reduceReplicate,Nat.reduceAdd,Nat.reduceSub,reduceCtorEq,Nat.reduceLeDiff,Nat.reduceMul,Nat.reduceLT,Nat.reduceEqDiff,Int.reduceBNe,Int.reduceBEq,Int.reduceEq,Int.reduceLT,Int.reduceLE,Int.reduceGT,Int.reduceGE,mu9,Nat.reduceBEq,↓wrap_up,↓wrap_down,↓wrap_pred,↓wrap_sub_nat,Int.reduceToNat,W_block (id:=1),hPk]
    refine W_cut (fun s=>∃ x:Ins,x.set.length≤1∧okIns n caps runes x=true∧s=⟨119,[(7,.rf 2 1 0 0),(5,I ((0:Nat):Int)),(4,.rf 1 1 0 0),(3,I n),(2,.rf 0 1 0 0),(0,.sl false (l.map I))],
     [.row 3 [.agg [.sl true [],I 0,.bool false]] 0,.row 3 [.agg [.sl true [],I caps,.bool runes]] 0,.row 5 [insAVt x] 0]⟩) ?_ ?_
    ·simp +contextual (disch:=omega) only[Tryz.f9,dd9,go_sem,↓reduceIte,W_block,List.reduceReplicate,Nat.reduceAdd,Nat.reduceSub,reduceCtorEq,Nat.reduceLeDiff,Nat.reduceMul,Nat.reduceLT,Nat.reduceEqDiff,Int.reduceBNe,Int.reduceBEq,Int.reduceEq,Int.reduceLT,Int.reduceLE,Int.reduceGT,Int.reduceGE,mu9,Nat.reduceBEq,↓wrap_up,↓wrap_down,↓wrap_pred,↓wrap_sub_nat,Int.reduceToNat,cut_norm]
     repeat' (first|intro _|apply And.intro)
     all_goals first
      | omega
      | (unfold dOk;kernel_rfl)
      | kernel_rfl
      | (refine⟨⟨_,_,_,_,[]⟩,?_,?_,rfl⟩<;>simp[okIns,refSpans,badAt,lastOk,hm1,hm2]<;>done)
      | (refine⟨⟨_,_,_,_,[]⟩,?_,?_,rfl⟩<;>simp[okIns,refSpans,badAt,lastOk,hm1,hm2]<;>omega)
      | (refine⟨⟨_,_,_,_,[]⟩,?_,?_,rfl⟩
         ·simp
         ·have q:=hm3 (k / 8) (by omega)
          simp[okIns,refSpans,badAt,lastOk]
          omega)
      | (refine⟨⟨_,_,_,_,[(97,_)]⟩,?_,?_,rfl⟩
         ·simp
         ·simp[okIns,refSpans,badAt,lastOk]
          (try split)<;>omega)
    ·rintro _ ⟨z,hz1,hz2,rfl⟩
     have hop:=okIns_op hz2
     by_cases h1n:0+1=n
     ·by_cases ha:z.op=1
      ·simp +contextual (disch:=omega) only[Tryz.f9,dd9,go_sem,↓reduceIte,W_block,List.reduceReplicate,Nat.reduceAdd,Nat.reduceSub,reduceCtorEq,Nat.reduceLeDiff,Nat.reduceMul,Nat.reduceLT,Nat.reduceEqDiff,Int.reduceBNe,Int.reduceBEq,Int.reduceEq,Int.reduceLT,Int.reduceLE,Int.reduceGT,Int.reduceGE,mu9,Nat.reduceBEq,↓wrap_up,↓wrap_down,↓wrap_pred,↓wrap_sub_nat,Int.reduceToNat]
       refine⟨by simp[roomFor],[]++[⟨0,0,0,0,[]⟩],next21 (by simpa using hlt) h2 ⟨ok_zero _ _ _,by simp⟩ (fun h=>by simp only[List.length_nil,List.length_cons]at h;first|exact Or.inl rfl|omega),by simp;omega,?_⟩
       exact(by first|rfl|(refine prep_cut rfl (by rfl) (by rfl) (by rfl) ?_ ?_<;>simp[AV.underL,AV.under,MB.under,underL_plain,under_plain,plain_ints,plain_span,plain_ins,plain_prg,-List.map_take,underL_insT]))
      ·by_cases hb:4≤z.op
       ·simp +contextual (disch:=omega) only[Tryz.f9,dd9,go_sem,↓reduceIte,W_block,List.reduceReplicate,Nat.reduceAdd,Nat.reduceSub,reduceCtorEq,Nat.reduceLeDiff,Nat.reduceMul,Nat.reduceLT,Nat.reduceEqDiff,Int.reduceBNe,Int.reduceBEq,Int.reduceEq,Int.reduceLT,Int.reduceLE,Int.reduceGT,Int.reduceGE,mu9,Nat.reduceBEq,↓wrap_up,↓wrap_down,↓wrap_pred,↓wrap_sub_nat,Int.reduceToNat]
        refine⟨by simp[roomFor],[]++[⟨0,0,0,0,[]⟩],next21 (by simpa using hlt) h2 ⟨ok_zero _ _ _,by simp⟩ (fun h=>by simp only[List.length_nil,List.length_cons]at h;first|exact Or.inl rfl|omega),by simp;omega,?_⟩
        exact(by first|rfl|(refine prep_cut rfl (by rfl) (by rfl) (by rfl) ?_ ?_<;>simp[AV.underL,AV.under,MB.under,underL_plain,under_plain,plain_ints,plain_span,plain_ins,plain_prg,-List.map_take,underL_insT]))
       ·simp +contextual (disch:=omega) only[Tryz.f9,dd9,go_sem,↓reduceIte,W_block,List.reduceReplicate,Nat.reduceAdd,Nat.reduceSub,reduceCtorEq,Nat.reduceLeDiff,Nat.reduceMul,Nat.reduceLT,Nat.reduceEqDiff,Int.reduceBNe,Int.reduceBEq,Int.reduceEq,Int.reduceLT,Int.reduceLE,Int.reduceGT,Int.reduceGE,mu9,Nat.reduceBEq,↓wrap_up,↓wrap_down,↓wrap_pred,↓wrap_sub_nat,Int.reduceToNat]
        refine⟨by simp[roomFor],[]++[z],next21 (by simpa using hlt) h2 ⟨hz2,hz1⟩ (fun h=>by simp only[List.length_nil,List.length_cons]at h;first|exact Or.inl rfl|omega),by simp;omega,?_⟩
        exact(by first|rfl|(refine prep_cut rfl (by rfl) (by rfl) (by rfl) ?_ ?_<;>simp[AV.underL,AV.under,MB.under,underL_plain,under_plain,plain_ints,plain_span,plain_ins,plain_prg,-List.map_take,underL_insT]))
     ·simp +contextual (disch:=omega) only[Tryz.f9,dd9,go_sem,↓reduceIte,W_block,List.reduceReplicate,Nat.reduceAdd,Nat.reduceSub,reduceCtorEq,Nat.reduceLeDiff,Nat.reduceMul,Nat.reduceLT,Nat.reduceEqDiff,Int.reduceBNe,Int.reduceBEq,Int.reduceEq,Int.reduceLT,Int.reduceLE,Int.reduceGT,Int.reduceGE,mu9,Nat.reduceBEq,↓wrap_up,↓wrap_down,↓wrap_pred,↓wrap_sub_nat,Int.reduceToNat]
      refine⟨by simp[roomFor],[]++[z],next21 (by simpa using hlt) h2 ⟨hz2,hz1⟩ (fun h=>by simp only[List.length_nil,List.length_cons]at h;first|exact Or.inl rfl|omega),by simp;omega,?_⟩
      exact(by first|rfl|(refine prep_cut rfl (by rfl) (by rfl) (by rfl) ?_ ?_<;>simp[AV.underL,AV.under,MB.under,underL_plain,under_plain,plain_ints,plain_span,plain_ins,plain_prg,-List.map_take,underL_insT]))
  | cons x xs=>
    simp only[T21]
    simp only[List.length_cons]at hPk hlt
    simp +contextual (disch:=omega) only[Tryz.f9,dd9,go_sem,↓reduceIte,List.reduceReplicate,Nat.reduceAdd,Nat.reduceSub,reduceCtorEq,Nat.reduceLeDiff,Nat.reduceMul,Nat.reduceLT,Nat.reduceEqDiff,Int.reduceBNe,Int.reduceBEq,Int.reduceEq,Int.reduceLT,Int.reduceLE,Int.reduceGT,Int.reduceGE,mu9,Nat.reduceBEq,↓wrap_up,↓wrap_down,↓wrap_pred,↓wrap_sub_nat,Int.reduceToNat,W_block (id:=1),hPk]
    refine W_cut (fun s=>∃ z:Ins,z.set.length≤1∧okIns n caps runes z=true∧s=⟨119,[(7,.rf 4 1 0 0),(5,I ((xs.length+1:Nat):Int)),(4,.rf 1 1 0 0),(3,I n),(2,.rf 0 1 0 0),(0,.sl false (l.map I))],
     [.row 3 [.agg [.sl true [],I 0,.bool false]] 0,.row 3 [.agg [.ms 3 5 (xs.length+1) 0 (xs.length+1),I caps,.bool runes]] 0,.row 5 [insAVt x] 0,.row 5 (insAVt x::xs.map insAVt) 0,.row 5 [insAVt z] 0]⟩) ?_ ?_
    ·simp +contextual (disch:=omega) only[Tryz.f9,dd9,go_sem,↓reduceIte,W_block,List.reduceReplicate,Nat.reduceAdd,Nat.reduceSub,reduceCtorEq,Nat.reduceLeDiff,Nat.reduceMul,Nat.reduceLT,Nat.reduceEqDiff,Int.reduceBNe,Int.reduceBEq,Int.reduceEq,Int.reduceLT,Int.reduceLE,Int.reduceGT,Int.reduceGE,mu9,Nat.reduceBEq,↓wrap_up,↓wrap_down,↓wrap_pred,↓wrap_sub_nat,Int.reduceToNat,cut_norm]
     repeat' (first|intro _|apply And.intro)
     all_goals first
      | omega
      | (unfold dOk;kernel_rfl)
      | kernel_rfl
      | (refine⟨⟨_,_,_,_,[]⟩,?_,?_,rfl⟩<;>simp[okIns,refSpans,badAt,lastOk,hm1,hm2]<;>done)
      | (refine⟨⟨_,_,_,_,[]⟩,?_,?_,rfl⟩<;>simp[okIns,refSpans,badAt,lastOk,hm1,hm2]<;>omega)
      | (refine⟨⟨_,_,_,_,[]⟩,?_,?_,rfl⟩
         ·simp
         ·have q:=hm3 (k / 8) (by omega)
          simp[okIns,refSpans,badAt,lastOk]
          omega)
      | (refine⟨⟨_,_,_,_,[(97,_)]⟩,?_,?_,rfl⟩
         ·simp
         ·simp[okIns,refSpans,badAt,lastOk]
          (try split)<;>omega)
    ·rintro _ ⟨z,hz1,hz2,rfl⟩
     have hop:=okIns_op hz2
     by_cases h1n:xs.length+1+1=n
     ·by_cases ha:z.op=1
      ·simp +contextual (disch:=omega) only[Tryz.f9,dd9,go_sem,↓reduceIte,W_block,List.reduceReplicate,Nat.reduceAdd,Nat.reduceSub,reduceCtorEq,Nat.reduceLeDiff,Nat.reduceMul,Nat.reduceLT,Nat.reduceEqDiff,Int.reduceBNe,Int.reduceBEq,Int.reduceEq,Int.reduceLT,Int.reduceLE,Int.reduceGT,Int.reduceGE,mu9,Nat.reduceBEq,↓wrap_up,↓wrap_down,↓wrap_pred,↓wrap_sub_nat,Int.reduceToNat]
       refine⟨by simp[roomFor];omega,(x::xs)++[⟨0,0,0,0,[]⟩],next21 (by simpa using hlt) h2 ⟨ok_zero _ _ _,by simp⟩ (fun h=>by simp only[List.length_nil,List.length_cons]at h;first|exact Or.inl rfl|omega),by simp;omega,?_⟩
       simp only[List.cons_append,T21,List.length_append,List.length_cons,List.length_nil,Nat.zero_add]
       refine prep_cut (n:=4) rfl (by rfl) rfl ?_ ?_ ?_
       ·simp[List.take_of_length_le]
       ·simp[AV.underL,AV.under,underL_plain,plain_ints]
       ·simp[AV.underL,AV.under,MB.under,underL_plain,plain_span,underL_insT,underL_append]
      ·by_cases hb:4≤z.op
       ·simp +contextual (disch:=omega) only[Tryz.f9,dd9,go_sem,↓reduceIte,W_block,List.reduceReplicate,Nat.reduceAdd,Nat.reduceSub,reduceCtorEq,Nat.reduceLeDiff,Nat.reduceMul,Nat.reduceLT,Nat.reduceEqDiff,Int.reduceBNe,Int.reduceBEq,Int.reduceEq,Int.reduceLT,Int.reduceLE,Int.reduceGT,Int.reduceGE,mu9,Nat.reduceBEq,↓wrap_up,↓wrap_down,↓wrap_pred,↓wrap_sub_nat,Int.reduceToNat]
        refine⟨by simp[roomFor];omega,(x::xs)++[⟨0,0,0,0,[]⟩],next21 (by simpa using hlt) h2 ⟨ok_zero _ _ _,by simp⟩ (fun h=>by simp only[List.length_nil,List.length_cons]at h;first|exact Or.inl rfl|omega),by simp;omega,?_⟩
        simp only[List.cons_append,T21,List.length_append,List.length_cons,List.length_nil,Nat.zero_add]
        refine prep_cut (n:=4) rfl (by rfl) rfl ?_ ?_ ?_
        ·simp[List.take_of_length_le]
        ·simp[AV.underL,AV.under,underL_plain,plain_ints]
        ·simp[AV.underL,AV.under,MB.under,underL_plain,plain_span,underL_insT,underL_append]
       ·simp +contextual (disch:=omega) only[Tryz.f9,dd9,go_sem,↓reduceIte,W_block,List.reduceReplicate,Nat.reduceAdd,Nat.reduceSub,reduceCtorEq,Nat.reduceLeDiff,Nat.reduceMul,Nat.reduceLT,Nat.reduceEqDiff,Int.reduceBNe,Int.reduceBEq,Int.reduceEq,Int.reduceLT,Int.reduceLE,Int.reduceGT,Int.reduceGE,mu9,Nat.reduceBEq,↓wrap_up,↓wrap_down,↓wrap_pred,↓wrap_sub_nat,Int.reduceToNat]
        refine⟨by simp[roomFor];omega,(x::xs)++[z],next21 (by simpa using hlt) h2 ⟨hz2,hz1⟩ (fun h=>by simp only[List.length_nil,List.length_cons]at h;first|exact Or.inl rfl|omega),by simp;omega,?_⟩
        simp only[List.cons_append,T21,List.length_append,List.length_cons,List.length_nil,Nat.zero_add]
        refine prep_cut (n:=4) rfl (by rfl) rfl ?_ ?_ ?_
        ·simp[List.take_of_length_le]
        ·simp[AV.underL,AV.under,underL_plain,plain_ints]
        ·simp[AV.underL,AV.under,MB.under,underL_plain,plain_span,underL_insT,underL_append]
     ·simp +contextual (disch:=omega) only[Tryz.f9,dd9,go_sem,↓reduceIte,W_block,List.reduceReplicate,Nat.reduceAdd,Nat.reduceSub,reduceCtorEq,Nat.reduceLeDiff,Nat.reduceMul,Nat.reduceLT,Nat.reduceEqDiff,Int.reduceBNe,Int.reduceBEq,Int.reduceEq,Int.reduceLT,Int.reduceLE,Int.reduceGT,Int.reduceGE,mu9,Nat.reduceBEq,↓wrap_up,↓wrap_down,↓wrap_pred,↓wrap_sub_nat,Int.reduceToNat]
      refine⟨by simp[roomFor];omega,(x::xs)++[z],next21 (by simpa using hlt) h2 ⟨hz2,hz1⟩ (fun h=>by simp only[List.length_nil,List.length_cons]at h;first|exact Or.inl rfl|omega),by simp;omega,?_⟩
      simp only[List.cons_append,T21,List.length_append,List.length_cons,List.length_nil,Nat.zero_add]
      refine prep_cut (n:=4) rfl (by rfl) rfl ?_ ?_ ?_
      ·simp[List.take_of_length_le]
      ·simp[AV.underL,AV.under,underL_plain,plain_ints]
      ·simp[AV.underL,AV.under,MB.under,underL_plain,plain_span,underL_insT,underL_append]
 ·have hn':xs.length=n:=by omega
  cases xs with
  | nil=>simp at hn';omega
  | cons x xs=>
    simp only[T21]
    simp only[List.length_cons]at hn'
    simp +contextual (disch:=omega) only[Tryz.f9,dd9,go_sem,↓reduceIte,W_block,List.reduceReplicate,Nat.reduceAdd,Nat.reduceSub,reduceCtorEq,Nat.reduceLeDiff,Nat.reduceMul,Nat.reduceLT,Nat.reduceEqDiff,Int.reduceBNe,Int.reduceBEq,Int.reduceEq,Int.reduceLT,Int.reduceLE,Int.reduceGT,Int.reduceGE,mu9,Nat.reduceBEq,↓wrap_up,↓wrap_down,↓wrap_pred,↓wrap_sub_nat,Int.reduceToNat]
    exact⟨_,⟨⟨x::xs,caps,runes⟩,⟨by simp;omega,by simp only[];omega,fun i hi=>by simp only[List.length_cons,hn'];exact(h2 i hi).1,h3 hn',fun i hi=>(h2 i hi).2⟩,rfl⟩,fz_allT (ins:=x::xs) rfl (by simp)⟩
end
end Go.Ev
namespace Go.Ev
attribute [local go_sem] evAppend evBin AV.cells frzB List.length_append List.map_append
section
attribute [local go_sem] W_block tySzE List.head?_drop Nat.mul_one sameAt_zero sameAt_two sameAt_three sameAt_four sameAt_five room_ok
open Go.Proofs Go.RowKit Go.IntWalk
set_option maxRecDepth 100000
set_option maxHeartbeats 8000000
section
variable {α:Type} (A K:List α) (x y v:α)
theorem pre_get:(A++x::K)[A.length]?=some x:=by simp
theorem pre_get1:(A++x::y::K)[A.length+1]?=some y:=by
 rw[List.getElem?_append_right (by omega)];simp
theorem pre_set:(A++x::K).set A.length v=A++v::K:=by simp
theorem pre_set1:(A++x::y::K).set (A.length+1) v=A++x::v::K:=by
 rw[List.set_append_right _ _ (by omega)];simp
end
section
variable {k:IntKind} {a b:Int}
end
end
section
attribute [local go_sem] W_block
open Go.Proofs Go.RowKit Go.IntWalk
set_option maxRecDepth 100000
set_option maxHeartbeats 4000000
def assertI (n:Int) (b a:Option Int):Bool:=
 let w:=fun(o:Option Int)=>match o with
  | some x=>wordI x
  | none=>false
 let e:=fun(o:Option Int)=>match o with
  | some x=>x == 10
  | none=>true
 if n=0 then b.isNone else if n=1 then a.isNone else if n=2 then e b else if n=3 then e a else if n=4 then w b != w a else if n=5 then w b == w a else false
def befS (t:List Int) (k:Nat):Option Int:=if k=0 then none else t[k - 1]?
end
inductive Goal where
 | nil
 | mk (kind:Int) (re:Re) (k fr:Int) (next:Goal)
def goalA:Goal→AV
 | .nil=>.nilp
 | .mk kind re k fr next=>.pt (I kind::(reC re++[I k,I fr,goalA next]))
abbrev goalC (kind:Int) (re:Re) (k fr:Int) (next:Goal):List AV:=I kind::(reC re++[I k,I fr,goalA next])
theorem plainL_append:∀(a b:List AV),AV.plainL (a++b)=(AV.plainL a && AV.plainL b)
 | [],b=>by simp[AV.plainL]
 | x::a,b=>by simp[AV.plainL,plainL_append a b,Bool.and_assoc]
theorem plain_goal:∀ g:Goal,AV.plain (goalA g)=true
 | .nil=>rfl
 | .mk kind re k fr next=>by
   have h1:=plain_goal next
   have h2:=plain_reC re
   simp[goalA,AV.plain,AV.plainL,plainL_append,h1,h2]
theorem plain_goalC (kind:Int) (re:Re) (k fr:Int) (next:Goal):AV.plainL (goalC kind re k fr next)=true:=by
 have h1:=plain_goal next
 have h2:=plain_reC re
 simp[AV.plain,AV.plainL,plainL_append,h1,h2]
abbrev Caps:=List (Int×Int)
abbrev capA (c:Caps):AV:=.sl false (c.map spanAV)
structure SS where
 steps:Int
 empty:Bool
 ends:List Int
 caps:List Caps
def withI (c:Caps) (n fr to:Int):Caps:=if 1≤n∧n≤c.length then c.set (n - 1).toNat (fr,to) else c
def Re.op:Re→Int | .mk op _ _ _ _ _ _ _=>op
def Re.set:Re→List (Int×Int) | .mk _ set _ _ _ _ _ _=>set
def Re.kids:Re→List Re | .mk _ _ kids _ _ _ _ _=>kids
def Re.mn:Re→Int | .mk _ _ _ mn _ _ _ _=>mn
def Re.mx:Re→Int | .mk _ _ _ _ mx _ _ _=>mx
def Re.md:Re→Int | .mk _ _ _ _ _ md _ _=>md
def Re.n:Re→Int | .mk _ _ _ _ _ _ n _=>n
def stepS (fuel:Int) (s:SS):SS:=⟨s.steps+1,s.empty || decide (fuel < s.steps+1),s.ends,s.caps⟩
abbrev RunT:=Goal→Int→Caps→SS→Option (Bool×SS)
def orR (a:Option (Bool×SS)) (f:SS→Option (Bool×SS)):Option (Bool×SS):=
 match a with
 | none=>none
 | some (true,s)=>some (true,s)
 | some (false,s)=>f s
def repR (fuel:Int) (R:RunT) (re:Re) (k:Int) (next:Goal) (i:Int) (c:Caps) (s:SS):Option (Bool×SS):=
 let s1:=stepS fuel s
 if s1.empty=true then some (true,s1)
 else
  match re.kids with
  | []=>none
  | kid::_=>
    let once:=Goal.mk 0 kid 0 0 (.mk 2 re k i next)
    let more:Bool:=decide (re.mx = -1) || decide (k < re.mx)
    if k < re.mn then R once i c s1
    else if re.md=1 then orR (R next i c s1) fun s2=>if more then R once i c s2 else some (false,s2)
    else orR (if more then R once i c s1 else some (false,s1)) fun s2=>R next i c s2
def catG (next:Goal):List Re→Goal
 | []=>next
 | k::ks=>.mk 0 k 0 0 (catG next ks)
def altR (R:RunT) (next:Goal) (i:Int) (c:Caps):List Re→SS→Option (Bool×SS)
 | [],s=>some (false,s)
 | k::ks,s=>orR (R (.mk 0 k 0 0 next) i c s) (altR R next i c ks)
def nodeR (t:List Int) (fuel:Int) (R:RunT) (re:Re) (next:Goal) (i:Int) (c:Caps) (s:SS):Option (Bool×SS):=
 if re.op=4 then repR fuel R re 0 next i c s
 else
  let s1:=stepS fuel s
  if s1.empty=true then some (true,s1)
  else if re.op=1 then
   match t[i.toNat]? with
   | some x=>if hasSpan re.set x=true then R next (i+1) c s1 else some (false,s1)
   | none=>some (false,s1)
  else if re.op=2 then R (catG next re.kids) i c s1
  else if re.op=3 then altR R next i c re.kids s1
  else if re.op=5 then
   match re.kids with
   | []=>none
   | kid::_=>R (.mk 0 kid 0 0 (.mk 3 re 0 i next)) i c s1
  else if re.op=11 then(if assertI re.n (befS t i.toNat) t[i.toNat]?=true then R next i c s1 else some (false,s1))
  else R next i c s1
def runG (t:List Int) (fuel:Int):Nat→RunT
 | 0,_,_,_,_=>none
 | _+1,.nil,i,c,s=>some (false,⟨s.steps,s.empty,s.ends++[i],s.caps++[c]⟩)
 | d+1,.mk kind re k fr next,i,c,s=>
   if kind=1 then repR fuel (runG t fuel d) re k next i c s
   else if kind=2 then(if re.mn≤k∧i=fr then some (false,s) else runG t fuel d (.mk 1 re (k+1) 0 next) i c s)
   else if kind=3 then runG t fuel d next i (withI c re.n fr i) s
   else nodeR t fuel (runG t fuel d) re next i c s
end Go.Ev
namespace Go.Ev
attribute [local go_sem] evAppend evBin AV.cells frzB List.length_append List.map_append
section
attribute [local go_sem] W_block tySzE List.head?_drop Nat.mul_one sameAt_zero sameAt_two sameAt_three sameAt_four sameAt_five room_ok
open Go.Proofs Go.RowKit Go.IntWalk
set_option maxRecDepth 100000
set_option maxHeartbeats 8000000
section
variable {α:Type} (A K:List α) (x y z v:α)
theorem pre_get2:(A++x::y::z::K)[A.length+2]?=some z:=by
 rw[List.getElem?_append_right (by omega)];simp
theorem pre_set2:(A++x::y::z::K).set (A.length+2) v=A++x::y::v::K:=by
 rw[List.set_append_right _ _ (by omega)];simp
end
abbrev sB (m:Nat) (t:List Int) (fuel steps:Int) (empty:Bool) (e:Nat):MB:=.row 7 [.agg [.sl false (t.map I),I (-1),I fuel,I steps,.bool empty,.ms (m+1) 1 e 0 e,.ms (m+2) 1 e 0 e]] 0
abbrev srH (A:List MB) (t:List Int) (fuel:Int) (s:SS) (e:Nat) (K:List MB):List MB:=
 A++sB A.length t fuel s.steps s.empty e::.row 1 (s.ends.map I) 0::.row 1 (s.caps.map capA) 0::K
theorem plain_caps (l:List Caps):AV.plainL (l.map capA)=true:=by
 induction l with
 | nil=>rfl
 | cons a l ih=>simp[AV.plainL,AV.plain,plain_span,ih]
theorem keptOk_pre3 (n:Nat) (x y z x' y' z':MB) (K L:List MB) (h1:MB.under n x' = true) (h2:MB.under n y' = true) (h3:MB.under n z' = true):∀ A:List MB,keptOk n (A++x::y::z::K) (A++x'::y'::z'::(K++L))=true
 | []=>by
   simp only[List.nil_append,keptOk,h1,h2,h3,Bool.or_true,Bool.true_and]
   exact keptOk_self n L K
 | a::A=>by simp[keptOk,MB.beq_refl,keptOk_pre3 n x y z x' y' z' K L h1 h2 h3 A]
theorem take_pre3 {α:Type} (x y z x' y' z':α) (K L:List α):∀ A:List α,(A++x'::y'::z'::(K++L)).take (A++x::y::z::K).length=A++x'::y'::z'::K
 | []=>by simp
 | a::A=>by
   simp only[List.cons_append,List.length_cons,List.take_succ_cons,take_pre3 x y z x' y' z' K L A]
theorem ret_sr {f:Nat} (hk:pol1.keep f=false) (ho:pol1.own f=false) (b:Bool) (A K L:List MB) (t:List Int) (fuel:Int) (s s':SS) (e e':Nat) :
  retPol pol1 f (srH A t fuel s e K) (.bool b) (srH A t fuel s' e' (K++L))=some (.bool b,srH A t fuel s' e' K):=
 retPol_keep hk ho rfl (keptOk_pre3 _ _ _ _ _ _ _ _ _ (by simp[MB.under,AV.underL,AV.under,underL_plain,plain_ints]<;>omega) (by simp[MB.under,underL_plain,plain_ints]) (by simp[MB.under,underL_plain,plain_caps]) A) (take_pre3 _ _ _ _ _ _ _ _ _)
theorem ret_sr0 {f:Nat} (hk:pol1.keep f=false) (ho:pol1.own f=false) (b:Bool) (A K:List MB) (t:List Int) (fuel:Int) (s s':SS) (e e':Nat) :
  retPol pol1 f (srH A t fuel s e K) (.bool b) (srH A t fuel s' e' K)=some (.bool b,srH A t fuel s' e' K):=by
 have:=ret_sr hk ho b A K [] t fuel s s' e e'
 rwa [List.append_nil]at this
theorem f161 (A K:List MB) (t:List Int) (fuel:Int) (s:SS) (e:Nat) (hs:0≤s.steps∧s.steps≤1000000000000) :
  call Tryz.prog pol1 149 [.rf A.length 1 0 0] (srH A t fuel s e K)=some (.bool (!(stepS fuel s).empty),srH A t fuel (stepS fuel s) e K):=by
 have fr:frzArgs pol1 149 0 [.rf A.length 1 0 0] (srH A t fuel s e K)=some ([.rf A.length 1 0 0],srH A t fuel s e K):=frzArgs_mix _ _ _ rfl
 refine call_run2 (pol:=pol1) Tryz.func149 rfl rfl rfl rfl fr ?_
 have hw:IntKind.i64.wrap (s.steps+1)=s.steps+1:=by rw[i64_in]<;>omega
 have ret:=fun b s'=>ret_sr0 (f:=149) rfl rfl b A K t fuel s s' e e
 obtain⟨steps,empty,ends,caps⟩:=s
 simp only at hs hw
 by_cases h:fuel < steps+1
 ·have e1:stepS fuel ⟨steps,empty,ends,caps⟩=⟨steps+1,true,ends,caps⟩:=by simp[stepS,h]
  rw[e1]
  simp +contextual (disch:=omega) only[Tryz.f149,dd149,go_sem,simprocAttr,mu149,↓wrap_up,↓wrap_down,↓wrap_pred,↓wrap_sub_nat,pre_get,pre_set,hw]
  repeat' (first|intro _|apply And.intro|(unfold dOk;kernel_rfl)|exact St.beq_refl _|(show altO _ _ _ _=true;kernel_rfl)|(show (_ || _)=true;kernel_rfl)|(show (_ && _)=true;kernel_rfl))
  exact ret false ⟨steps+1,true,ends,caps⟩
 ·have e1:stepS fuel ⟨steps,empty,ends,caps⟩=⟨steps+1,empty,ends,caps⟩:=by simp[stepS,h]
  rw[e1]
  simp +contextual (disch:=omega) only[Tryz.f149,dd149,go_sem,simprocAttr,mu149,↓wrap_up,↓wrap_down,↓wrap_pred,↓wrap_sub_nat,pre_get,pre_set,hw]
  repeat' (first|intro _|apply And.intro|(unfold dOk;kernel_rfl)|exact St.beq_refl _|(show altO _ _ _ _=true;kernel_rfl)|(show (_ || _)=true;kernel_rfl)|(show (_ && _)=true;kernel_rfl))
  exact ret (!empty) ⟨steps+1,empty,ends,caps⟩
theorem f162 (l:List (Int×Int)) (x:Int) (hl:l.length≤1000000) (H:List MB):call Tryz.prog pol1 150 [.sl false (l.map spanAV),I x] H=some (.bool (hasSpan l x),H):=by
 refine call_run Tryz.func150 rfl rfl rfl rfl rfl rfl (fun _=>rfl) (by simp[AV.plain,AV.plainL,plain_span]) rfl ?_ H
 simp +contextual (disch:=omega) only[Tryz.f150,dd150,go_sem,simprocAttr,mu150,↓wrap_up,↓wrap_down,↓wrap_pred,↓wrap_sub_nat]
 refine W_count (M:=(mskOf (pol1.mask 150) (pol1.gc 150) (pol1.acts 150) 0 2)) rfl l.length (fun i=>(⟨28,[(5,I i),(1,I x),(0,.sl false (l.map spanAV))],[]⟩:St)) (fun i=>∀ k p,k < i→l[k]?=some p→¬ (p.1≤x∧x≤p.2)) ?_ ?_ (fun k p h=>by omega) _ (by first|rfl|(refine prep_cut rfl (by rfl) (by rfl) (by rfl) ?_ ?_<;>simp[AV.underL,AV.under,MB.under,underL_plain,under_plain,plain_ints,plain_span,plain_ins,plain_prg,-List.map_take]))
 ·intro i hi hg
  obtain⟨p,hp⟩:∃ p,l[i]?=some p:=⟨_,List.getElem?_eq_getElem hi⟩
  by_cases hin:p.1≤x∧x≤p.2
  ·rw[hasSpan_at hp hin]
   simp +contextual (disch:=omega) only[Tryz.f150,dd150,go_sem,simprocAttr,mu150,↓wrap_up,↓wrap_down,↓wrap_pred,↓wrap_sub_nat,hp,spanAV]
   exact fzEq rfl rfl
  ·have ext:∀ k q,k < i+1→l[k]?=some q→¬ (q.1≤x∧x≤q.2):=fun k q hk hq=>by
    rcases Nat.lt_or_ge k i with h|h
    ·exact hg k q h hq
    ·obtain rfl:k=i:=by omega
     rw[hp]at hq
     obtain rfl:=Option.some.inj hq
     exact hin
   by_cases h1:p.1≤x
   ·simp +contextual (disch:=omega) only[Tryz.f150,dd150,go_sem,simprocAttr,mu150,↓wrap_up,↓wrap_down,↓wrap_pred,↓wrap_sub_nat,hp,spanAV]
    exact⟨ext,(by first|rfl|(refine prep_cut rfl (by rfl) (by rfl) (by rfl) ?_ ?_<;>simp[AV.underL,AV.under,MB.under,underL_plain,under_plain,plain_ints,plain_span,plain_ins,plain_prg,-List.map_take]))⟩
   ·simp +contextual (disch:=omega) only[Tryz.f150,dd150,go_sem,simprocAttr,mu150,↓wrap_up,↓wrap_down,↓wrap_pred,↓wrap_sub_nat,hp,spanAV]
    exact⟨ext,(by first|rfl|(refine prep_cut rfl (by rfl) (by rfl) (by rfl) ?_ ?_<;>simp[AV.underL,AV.under,MB.under,underL_plain,under_plain,plain_ints,plain_span,plain_ins,plain_prg,-List.map_take]))⟩
 ·intro hg
  rw[hasSpan_no hg]
  simp +contextual (disch:=omega) only[Tryz.f150,dd150,go_sem,simprocAttr,mu150,↓wrap_up,↓wrap_down,↓wrap_pred,↓wrap_sub_nat]
  exact fzEq rfl rfl
theorem f167 (x:Int) (H:List MB):call Tryz.prog pol1 167 [I x] H=some (.bool (wordI x),H):=by
 refine call_run Tryz.func167 rfl rfl rfl rfl rfl rfl (fun _=>rfl) rfl rfl ?_ H
 simp +contextual (disch:=omega) only[Tryz.f167,dd167,go_sem,simprocAttr,mu167,↓wrap_up,↓wrap_down,↓wrap_pred,↓wrap_sub_nat]
 repeat' (first|intro _|apply And.intro|refine fzEq rfl (congrArg AV.bool ?_))
 all_goals (rw[Bool.eq_iff_iff];simp[wordI]<;>omega)
theorem f165 (n:Int) (t:List Int) (k:Nat) (hn:0≤n∧n≤5) (hk:k≤t.length) (ht:t.length≤1000000000) (H:List MB):call Tryz.prog pol1 153 [I n,.sl false (t.map I),I k] H=some (.bool (assertI n (befS t k) t[k]?),H):=by
 refine call_run Tryz.func153 rfl rfl rfl rfl rfl rfl (fun _=>rfl) (by simp[AV.plain,AV.plainL,plain_ints]) rfl ?_ H
 rcases k with _|k
 ·rcases t with _|⟨x,t⟩
  ·simp +contextual (disch:=omega) only[Tryz.f153,dd153,go_sem,simprocAttr,mu153,↓wrap_up,↓wrap_down,↓wrap_pred,↓wrap_sub_nat,f167]
   repeat' (first|intro _|apply And.intro|(unfold dOk;kernel_rfl)|(show (_ && _)=true;kernel_rfl)|(show (_ || _)=true;kernel_rfl)|refine fzEq rfl (congrArg AV.bool ?_))
   all_goals (simp_all [assertI,befS];try (intros;omega))
  ·simp +contextual (disch:=omega) only[Tryz.f153,dd153,go_sem,simprocAttr,mu153,↓wrap_up,↓wrap_down,↓wrap_pred,↓wrap_sub_nat,f167]
   repeat' (first|intro _|apply And.intro|(unfold dOk;kernel_rfl)|(show (_ && _)=true;kernel_rfl)|(show (_ || _)=true;kernel_rfl)|refine fzEq rfl (congrArg AV.bool ?_))
   all_goals (simp_all [assertI,befS];try (intros;omega))
 ·obtain⟨x,hx⟩:∃ x,t[k]?=some x:=⟨_,List.getElem?_eq_getElem (by omega)⟩
  by_cases hl:k+1 < t.length
  ·obtain⟨y,hy⟩:∃ y,t[k+1]?=some y:=⟨_,List.getElem?_eq_getElem hl⟩
   simp +contextual (disch:=omega) only[Tryz.f153,dd153,go_sem,simprocAttr,mu153,↓wrap_up,↓wrap_down,↓wrap_pred,↓wrap_sub_nat,f167,hx,hy]
   repeat' (first|intro _|apply And.intro|(unfold dOk;kernel_rfl)|(show (_ && _)=true;kernel_rfl)|(show (_ || _)=true;kernel_rfl)|refine fzEq rfl (congrArg AV.bool ?_))
   all_goals (simp_all [assertI,befS];try (intros;omega))
   all_goals (cases wordI x<;>cases wordI y<;>rfl)
  ·have hy:t[k+1]?=none:=List.getElem?_eq_none (by omega)
   simp +contextual (disch:=omega) only[Tryz.f153,dd153,go_sem,simprocAttr,mu153,↓wrap_up,↓wrap_down,↓wrap_pred,↓wrap_sub_nat,f167,hx]
   repeat' (first|intro _|apply And.intro|(unfold dOk;kernel_rfl)|(show (_ && _)=true;kernel_rfl)|(show (_ || _)=true;kernel_rfl)|refine fzEq rfl (congrArg AV.bool ?_))
   all_goals (simp_all [assertI,befS];try (intros;omega))
theorem f153 (c:Caps) (n fr to:Int) (hc:c.length≤1000) (H:List MB):call Tryz.prog pol1 132 [capA c,I n,I fr,I to] H=some (capA (withI c n fr to),H):=by
 refine call_run Tryz.func132 rfl rfl rfl rfl rfl rfl (fun _=>rfl) (by simp[AV.plain,AV.plainL,plain_span]) (by simp[AV.plain,plain_span]) ?_ H
 unfold withI
 rcases c with _|⟨x,c⟩
 ·rw[if_neg (by simp;omega)]
  by_cases h1:1≤n
  ·simp +contextual (disch:=omega) only[Tryz.f132,dd132,go_sem,simprocAttr,mu132,↓wrap_up,↓wrap_down,↓wrap_pred,↓wrap_sub_nat]
   exact⟨_,rfl⟩
  ·simp +contextual (disch:=omega) only[Tryz.f132,dd132,go_sem,simprocAttr,mu132,↓wrap_up,↓wrap_down,↓wrap_pred,↓wrap_sub_nat]
   exact⟨_,rfl⟩
 ·simp only[List.length_cons]at hc
  have hroom:=room_ok (n:=c.length+1) (b:=16) (by omega) (by omega)
  have hal:((c.map spanAV).all fun y=>decide ((match y with | .agg cs=>cs|x=>[x]).length=2) && (match y with | .agg cs=>cs|x=>[x]).all AV.ok)=true:=by
   rw[List.all_eq_true];intro y hy;obtain⟨p,_,rfl⟩:=List.mem_map.1 hy;rfl
  have hz:∀ d:Caps,d.length=c.length+1→∃ H',fz (.ms 0 2 (c.length+1) 0 (c.length+1)) [.row 2 (d.map spanAV) 0]=some (capA d,H'):=fun d hd=>
   ⟨_,fz_row rfl (by rw[List.length_map];exact hd) (plain_span d)⟩
  by_cases h1:1≤n
  ·by_cases h2:n≤((x::c).length:Int)
   ·rw[if_pos ⟨h1,h2⟩]
    obtain⟨j,rfl⟩:∃ j:Nat,n=(j:Int)+1:=⟨(n - 1).toNat,by omega⟩
    simp only[List.length_cons]at h2
    obtain⟨y,hy⟩:∃ y,(x::c)[j]?=some y:=⟨_,List.getElem?_eq_getElem (by simp;omega)⟩
    have hy2:(spanAV x::List.map spanAV c)[j]?=some (spanAV y):=by
     have:((x::c).map spanAV)[j]?=some (spanAV y):=by rw[List.getElem?_map,hy];rfl
     exact this
    have hw:IntKind.i64.wrap ((j:Int)+1 - 1)=(j:Int):=by rw[i64_in]<;>omega
    have hj:((j:Int)+1 - 1)=(j:Int):=by omega
    have hset:(spanAV x::List.map spanAV c).set j (.agg [I fr,I to])=((x::c).set j (fr,to)).map spanAV:=by rw[List.map_set];rfl
    simp +contextual (disch:=omega) only[Tryz.f132,dd132,go_sem,simprocAttr,mu132,↓wrap_up,↓wrap_down,↓wrap_pred,↓wrap_sub_nat,hroom,hw,hy2,hj,hset]
    exact⟨hal,hz _ (by simp)⟩
   ·rw[if_neg (by omega)]
    simp only[List.length_cons]at h2
    simp +contextual (disch:=omega) only[Tryz.f132,dd132,go_sem,simprocAttr,mu132,↓wrap_up,↓wrap_down,↓wrap_pred,↓wrap_sub_nat,hroom]
    exact⟨hal,hz (x::c) rfl⟩
  ·rw[if_neg (by omega)]
   simp +contextual (disch:=omega) only[Tryz.f132,dd132,go_sem,simprocAttr,mu132,↓wrap_up,↓wrap_down,↓wrap_pred,↓wrap_sub_nat,hroom]
   exact⟨hal,hz (x::c) rfl⟩
section
variable {cs xs:List AV} {k:IntKind} {n:Int} {b:Bool} {x a c d e f:Nat}
theorem cl_agg:(AV.agg cs).cells=cs:=rfl
theorem cl_int:(AV.int k n).cells=[.int k n]:=rfl
theorem cl_bool:(AV.bool b).cells=[.bool b]:=rfl
theorem cl_sl:(AV.sl b xs).cells=[.sl b xs]:=rfl
theorem cl_rf:(AV.rf a c d e).cells=[.rf a c d e]:=rfl
theorem cl_pt:(AV.pt xs).cells=[.pt xs]:=rfl
theorem cl_nilp:AV.nilp.cells=[.nilp]:=rfl
end
theorem cl_goal (g:Goal):(goalA g).cells=[goalA g]:=by cases g<;>rfl
theorem ok_goal (g:Goal):AV.ok (goalA g)=true:=by cases g<;>rfl
theorem re_take (r:Re) (n:Nat) (l:List AV):List.take (n+8) (reC r++l)=reC r++List.take n l:=by
 rw[List.take_append,reC_len,List.take_of_length_le (by rw[reC_len];omega)];congr 2
theorem re_drop (r:Re) (n:Nat) (l:List AV):List.drop (n+8) (reC r++l)=List.drop n l:=by
 rw[List.drop_append,reC_len,List.drop_of_length_le (by rw[reC_len];omega),List.nil_append];congr 1
end
section
attribute [local go_sem] W_block tySzE List.head?_drop Nat.mul_one sameAt_zero sameAt_two sameAt_three sameAt_four sameAt_five room_ok
open Go.Proofs Go.RowKit Go.IntWalk
set_option maxRecDepth 100000
set_option maxHeartbeats 4000000
theorem badS_lt {l:List (Int×Int)} {top:Int} {i:Nat} {p:Int×Int} (hp:l[i]?=some p) (h:p.1 < 0∨p.2 < p.1∨top < p.2):badS l top i=true:=by
 simp only[badS,hp]
 rcases h with h|h|h<;>simp[h]
theorem badS_zero {l:List (Int×Int)} {top:Int} {p:Int×Int} (hp:l[0]?=some p) (h:¬ (p.1 < 0∨p.2 < p.1∨top < p.2)):badS l top 0=false:=by
 have h1:¬ p.1 < 0:=fun e=>h (.inl e)
 have h2:¬ p.2 < p.1:=fun e=>h (.inr (.inl e))
 have h3:¬ top < p.2:=fun e=>h (.inr (.inr e))
 simp[badS,hp,h1,h2,h3]
theorem badS_succ {l:List (Int×Int)} {top:Int} {i:Nat} {p q:Int×Int} (hp:l[i+1]?=some p) (hq:l[i]?=some q) (h:¬ (p.1 < 0∨p.2 < p.1∨top < p.2)):badS l top (i+1)=decide (p.1 < q.2+2):=by
 have h1:¬ p.1 < 0:=fun e=>h (.inl e)
 have h2:¬ p.2 < p.1:=fun e=>h (.inr (.inl e))
 have h3:¬ top < p.2:=fun e=>h (.inr (.inr e))
 simp[badS,hp,hq,h1,h2,h3]
theorem badS_hi {l:List (Int×Int)} {top:Int} {i:Nat} {q:Int×Int} (hq:l[i]?=some q) (h:badS l top i=false):0≤q.1∧q.1≤q.2∧q.2≤top:=by
 simp only[badS,hq,Bool.or_eq_false_iff,decide_eq_false_iff_not]at h
 omega
end
section
attribute [local go_sem] W_block tySzE List.head?_drop Nat.mul_one sameAt_zero sameAt_two sameAt_three sameAt_four sameAt_five room_ok
open Go.Proofs Go.RowKit Go.IntWalk
set_option maxRecDepth 100000
set_option maxHeartbeats 8000000
abbrev nodeL (op:Int) (set:List (Int×Int)) (kids:List Re) (mn mx md n:Int) (neg:Bool):List AV:=[I op,.sl false (set.map spanAV),.sl false (kids.map reAV),I mn,I mx,I md,I n,.bool neg]
end
section
attribute [local go_sem] W_block tySzE List.head?_drop Nat.mul_one sameAt_zero sameAt_two sameAt_three sameAt_four sameAt_five room_ok
open Go.Proofs Go.RowKit Go.IntWalk
set_option maxRecDepth 100000
set_option maxHeartbeats 8000000
theorem f112:∀(N:Nat) (r:Re),r.wt≤N→r.wt≤1000000→∀ H,call Tryz.prog pol1 61 [reAV r] H=some (I r.size,H)
 | 0,r,h,_,_=>by have:=r.wt_pos;omega
 | N+1,.mk op set kids mn mx md n neg,h,hN,H=>by
   have hkl:=Re.wtL_len kids
   have hwt:1+set.length+Re.wtL kids=(Re.mk op set kids mn mx md n neg).wt:=by simp[Re.wt]
   have ih:=fun k (hk:k∈kids)=>f112 N k (by have:=Re.wtL_mem hk;omega) (by have:=Re.wtL_mem hk;omega)
   have hsz:=Re.sizeL_wt kids
   rw[show reAV (.mk op set kids mn mx md n neg)=.agg (nodeL op set kids mn mx md n neg) from congrArg AV.agg reC_mk]
   refine call_run Tryz.func61 rfl rfl rfl rfl rfl rfl (fun _=>rfl) (by simp[AV.plain,AV.plainL,plain_span,plain_kids]) rfl ?_ H
   simp +contextual (disch:=omega) only[Tryz.f61,dd61,go_sem,simprocAttr,mu61,↓wrap_up,↓wrap_down,↓wrap_pred,↓wrap_sub_nat]
   refine W_count (M:=(mskOf (pol1.mask 61) (pol1.gc 61) (pol1.acts 61) 0 3)) rfl kids.length (fun i=>(⟨21,[(4,I i),(3,I ((1+Re.sizeL (kids.take i):Nat):Int)),(1,.rf 0 1 0 0)],[.row 8 [.agg (nodeL op set kids mn mx md n neg)] 0]⟩:St)) (fun _=>True) ?_ ?_ trivial _ (by first|rfl|(refine prep_to (n:=1) (m:=⟨some [4,3,1],some 1,[]⟩) rfl rfl ?_ ?_ ?_<;>first|rfl|(simp[keepT,AV.underL,AV.under,MB.under,underL_plain,under_plain,underL_append,plain_ints,plain_span,plain_ins,plain_prg,-List.map_take,-List.map_replicate,-List.map_set,Re.sizeL,plain_kids];done)|(simp[keepT,AV.underL,AV.under,MB.under,underL_plain,under_plain,underL_append,plain_ints,plain_span,plain_ins,plain_prg,-List.map_take,-List.map_replicate,-List.map_set,Re.sizeL,plain_kids];omega)))
   ·intro i hi _
    obtain⟨k,hk⟩:∃ k,kids[i]?=some k:=⟨_,List.getElem?_eq_getElem hi⟩
    have hkm:=List.mem_of_getElem? hk
    have ihk:=ih k hkm
    have hle:=Re.sizeL_take hk
    have hle2:=Re.sizeL_le (l:=kids) (i:=i+1)
    have hadd:((1+Re.sizeL (kids.take i):Nat):Int)+(k.size:Int)=((1+Re.sizeL (kids.take (i+1)):Nat):Int):=by omega
    have hl8:=reC_len k
    have ht8:=reC_take k
    simp +contextual (disch:=omega) only[Tryz.f61,dd61,go_sem,simprocAttr,mu61,↓wrap_up,↓wrap_down,↓wrap_pred,↓wrap_sub_nat,hk,ihk,hadd,hl8,ht8]
    exact(by first|rfl|(refine prep_to (n:=1) (m:=⟨some [4,3,1],some 1,[]⟩) rfl rfl ?_ ?_ ?_<;>first|rfl|(simp[keepT,AV.underL,AV.under,MB.under,underL_plain,under_plain,underL_append,plain_ints,plain_span,plain_ins,plain_prg,-List.map_take,-List.map_replicate,-List.map_set,plain_kids];done)|(simp[keepT,AV.underL,AV.under,MB.under,underL_plain,under_plain,underL_append,plain_ints,plain_span,plain_ins,plain_prg,-List.map_take,-List.map_replicate,-List.map_set,plain_kids];omega)))
   ·intro _
    rw[List.take_length]
    simp +contextual (disch:=omega) only[Tryz.f61,dd61,go_sem,simprocAttr,mu61,↓wrap_up,↓wrap_down,↓wrap_pred,↓wrap_sub_nat]
    exact fzEq rfl (by simp[Re.size])
theorem f113:∀(N:Nat) (r:Re),r.wt≤N→r.wt≤1000000→∀ H,call Tryz.prog pol1 62 [reAV r] H=some (I r.depth,H)
 | 0,r,h,_,_=>by have:=r.wt_pos;omega
 | N+1,.mk op set kids mn mx md n neg,h,hN,H=>by
   have hkl:=Re.wtL_len kids
   have hwt:1+set.length+Re.wtL kids=(Re.mk op set kids mn mx md n neg).wt:=by simp[Re.wt]
   have ih:=fun k (hk:k∈kids)=>f113 N k (by have:=Re.wtL_mem hk;omega) (by have:=Re.wtL_mem hk;omega)
   have hsz:=Re.sizeL_wt kids
   have hdz:=Re.depthL_size kids
   rw[show reAV (.mk op set kids mn mx md n neg)=.agg (nodeL op set kids mn mx md n neg) from congrArg AV.agg reC_mk]
   refine call_run Tryz.func62 rfl rfl rfl rfl rfl rfl (fun _=>rfl) (by simp[AV.plain,AV.plainL,plain_span,plain_kids]) rfl ?_ H
   simp +contextual (disch:=omega) only[Tryz.f62,dd62,go_sem,simprocAttr,mu62,↓wrap_up,↓wrap_down,↓wrap_pred,↓wrap_sub_nat]
   refine W_count (M:=(mskOf (pol1.mask 62) (pol1.gc 62) (pol1.acts 62) 0 3)) rfl kids.length (fun i=>(⟨22,[(4,I i),(3,I ((Re.depthL (kids.take i):Nat):Int)),(1,.rf 0 1 0 0)],[.row 8 [.agg (nodeL op set kids mn mx md n neg)] 0]⟩:St)) (fun _=>True) ?_ ?_ trivial _ (by first|rfl|(refine prep_to (n:=1) (m:=⟨some [4,3,1],some 1,[]⟩) rfl rfl ?_ ?_ ?_<;>first|rfl|(simp[keepT,AV.underL,AV.under,MB.under,underL_plain,under_plain,underL_append,plain_ints,plain_span,plain_ins,plain_prg,-List.map_take,-List.map_replicate,-List.map_set,Re.depthL,plain_kids];done)|(simp[keepT,AV.underL,AV.under,MB.under,underL_plain,under_plain,underL_append,plain_ints,plain_span,plain_ins,plain_prg,-List.map_take,-List.map_replicate,-List.map_set,Re.depthL,plain_kids];omega)))
   ·intro i hi _
    obtain⟨k,hk⟩:∃ k,kids[i]?=some k:=⟨_,List.getElem?_eq_getElem hi⟩
    have hkm:=List.mem_of_getElem? hk
    have ihk:=ih k hkm
    have hle:=Re.depthL_take hk
    have hadd:(if(k.depth:Int) > (Re.depthL (kids.take i):Nat) then(k.depth:Int) else(Re.depthL (kids.take i):Nat))=((Re.depthL (kids.take (i+1)):Nat):Int):=by rw[hle];split<;>omega
    have hl8:=reC_len k
    have ht8:=reC_take k
    simp +contextual (disch:=omega) only[Tryz.f62,dd62,go_sem,simprocAttr,mu62,↓wrap_up,↓wrap_down,↓wrap_pred,↓wrap_sub_nat,hk,ihk,evMax,hadd,hl8,ht8]
    exact(by first|rfl|(refine prep_to (n:=1) (m:=⟨some [4,3,1],some 1,[]⟩) rfl rfl ?_ ?_ ?_<;>first|rfl|(simp[keepT,AV.underL,AV.under,MB.under,underL_plain,under_plain,underL_append,plain_ints,plain_span,plain_ins,plain_prg,-List.map_take,-List.map_replicate,-List.map_set,plain_kids];done)|(simp[keepT,AV.underL,AV.under,MB.under,underL_plain,under_plain,underL_append,plain_ints,plain_span,plain_ins,plain_prg,-List.map_take,-List.map_replicate,-List.map_set,plain_kids];omega)))
   ·intro _
    rw[List.take_length]
    simp +contextual (disch:=omega) only[Tryz.f62,dd62,go_sem,simprocAttr,mu62,↓wrap_up,↓wrap_down,↓wrap_pred,↓wrap_sub_nat]
    exact fzEq rfl (by simp[Re.depth];omega)
end
section
attribute [local go_sem] W_block tySzE List.head?_drop Nat.mul_one sameAt_zero sameAt_two sameAt_three sameAt_four sameAt_five room_ok
open Go.Proofs Go.RowKit Go.IntWalk
set_option maxRecDepth 100000
set_option maxHeartbeats 8000000
theorem nullAll_false:∀ {l:List Re} {k:Re},k∈l→nullG k=false→nullAll l=false
 | x::l,k,h,hk=>by
   rcases List.mem_cons.1 h with e|e
   ·rw[← e];simp[nullAll,hk]
   ·simp[nullAll,nullAll_false e hk]
theorem nullAll_true:∀ {l:List Re},(∀(i:Nat) (k:Re),i < l.length→l[i]?=some k→nullG k=true)→nullAll l=true
 | [],_=>by simp[nullAll]
 | x::l,h=>by
   simp only[nullAll,Bool.and_eq_true]
   exact⟨h 0 x (by simp) rfl,nullAll_true fun i k hi hk=>h (i+1) k (by simp;omega) (by simpa using hk)⟩
theorem nullAny_true:∀ {l:List Re} {k:Re},k∈l→nullG k=true→nullAny l=true
 | x::l,k,h,hk=>by
   rcases List.mem_cons.1 h with e|e
   ·rw[← e];simp[nullAny,hk]
   ·simp[nullAny,nullAny_true e hk]
theorem nullAny_false:∀ {l:List Re},(∀(i:Nat) (k:Re),i < l.length→l[i]?=some k→nullG k=false)→nullAny l=false
 | [],_=>by simp[nullAny]
 | x::l,h=>by
   simp only[nullAny,Bool.or_eq_false_iff]
   exact⟨h 0 x (by simp) rfl,nullAny_false fun i k hi hk=>h (i+1) k (by simp;omega) (by simpa using hk)⟩
theorem f20:∀(N:Nat) (r:Re),r.wt≤N→r.wt≤1000000→∀ H,call Tryz.prog pol1 59 [reAV r] H=some (.bool (nullG r),H)
 | 0,r,h,_,_=>by have:=r.wt_pos;omega
 | N+1,.mk op set kids mn mx md n neg,h,hN,H=>by
   have hkl:=Re.wtL_len kids
   have hwt:1+set.length+Re.wtL kids=(Re.mk op set kids mn mx md n neg).wt:=by simp[Re.wt]
   have ih:=fun k (hk:k∈kids)=>f20 N k (by have:=Re.wtL_mem hk;omega) (by have:=Re.wtL_mem hk;omega)
   rw[show reAV (.mk op set kids mn mx md n neg)=.agg (nodeL op set kids mn mx md n neg) from congrArg AV.agg reC_mk]
   refine call_run Tryz.func59 rfl rfl rfl rfl rfl rfl (fun _=>rfl) (by simp[AV.plain,AV.plainL,plain_span,plain_kids]) rfl ?_ H
   rw[nullG]
   by_cases h1:op=1
   ·subst h1
    rw[if_pos rfl]
    simp +contextual (disch:=omega) only[Tryz.f59,dd59,go_sem,simprocAttr,mu59,↓wrap_up,↓wrap_down,↓wrap_pred,↓wrap_sub_nat]
    exact fzEq rfl rfl
   rw[if_neg h1]
   by_cases h2:op=2
   ·subst h2
    rw[if_pos rfl]
    simp +contextual (disch:=omega) only[Tryz.f59,dd59,go_sem,simprocAttr,mu59,↓wrap_up,↓wrap_down,↓wrap_pred,↓wrap_sub_nat]
    refine W_count (M:=(mskOf (pol1.mask 59) (pol1.gc 59) (pol1.acts 59) 0 6)) rfl kids.length (fun i=>(⟨73,[(3,I i),(1,.rf 0 1 0 0)],[.row 8 [.agg (nodeL 2 set kids mn mx md n neg)] 0]⟩:St)) (fun i=>∀ j k,j < i→kids[j]?=some k→nullG k=true) ?_ ?_ (fun j k h=>by omega) _ (by first|rfl|(refine prep_to (n:=1) (m:=⟨some [3,1],some 1,[]⟩) rfl rfl ?_ ?_ ?_<;>first|rfl|(simp[keepT,AV.underL,AV.under,MB.under,underL_plain,under_plain,underL_append,plain_ints,plain_span,plain_ins,plain_prg,-List.map_take,-List.map_replicate,-List.map_set,plain_kids];done)|(simp[keepT,AV.underL,AV.under,MB.under,underL_plain,under_plain,underL_append,plain_ints,plain_span,plain_ins,plain_prg,-List.map_take,-List.map_replicate,-List.map_set,plain_kids];omega)))
    ·intro i hi hg
     obtain⟨k,hk⟩:∃ k,kids[i]?=some k:=⟨_,List.getElem?_eq_getElem hi⟩
     have ihk:=ih k (List.mem_of_getElem? hk)
     have hl8:=reC_len k
     have ht8:=reC_take k
     cases hn:nullG k with
     | false=>
       rw[hn]at ihk
       rw[nullAll_false (List.mem_of_getElem? hk) hn]
       simp +contextual (disch:=omega) only[Tryz.f59,dd59,go_sem,simprocAttr,mu59,↓wrap_up,↓wrap_down,↓wrap_pred,↓wrap_sub_nat,hk,ihk,hl8,ht8]
       exact fzEq rfl rfl
     | true=>
       rw[hn]at ihk
       simp +contextual (disch:=omega) only[Tryz.f59,dd59,go_sem,simprocAttr,mu59,↓wrap_up,↓wrap_down,↓wrap_pred,↓wrap_sub_nat,hk,ihk,hl8,ht8]
       refine⟨fun j q hj hq=>?_,(by first|rfl|(refine prep_to (n:=1) (m:=⟨some [3,1],some 1,[]⟩) rfl rfl ?_ ?_ ?_<;>first|rfl|(simp[keepT,AV.underL,AV.under,MB.under,underL_plain,under_plain,underL_append,plain_ints,plain_span,plain_ins,plain_prg,-List.map_take,-List.map_replicate,-List.map_set,plain_kids];done)|(simp[keepT,AV.underL,AV.under,MB.under,underL_plain,under_plain,underL_append,plain_ints,plain_span,plain_ins,plain_prg,-List.map_take,-List.map_replicate,-List.map_set,plain_kids];omega)))⟩
       rcases Nat.lt_or_ge j i with h|h
       ·exact hg j q h hq
       ·obtain rfl:j=i:=by omega
        rw[hk]at hq;obtain rfl:=Option.some.inj hq
        exact hn
    ·intro hg
     rw[nullAll_true fun j k hj hk=>hg j k hj hk]
     simp +contextual (disch:=omega) only[Tryz.f59,dd59,go_sem,simprocAttr,mu59,↓wrap_up,↓wrap_down,↓wrap_pred,↓wrap_sub_nat]
     exact fzEq rfl rfl
   rw[if_neg h2]
   by_cases h3:op=3∨op=10
   ·rw[if_pos h3]
    rcases h3 with rfl|rfl
    all_goals (
     simp +contextual (disch:=omega) only[Tryz.f59,dd59,go_sem,simprocAttr,mu59,↓wrap_up,↓wrap_down,↓wrap_pred,↓wrap_sub_nat]
     refine W_count (M:=(mskOf (pol1.mask 59) (pol1.gc 59) (pol1.acts 59) 0 14)) rfl kids.length (fun i=>(⟨73,[(4,I i),(1,.rf 0 1 0 0)],[.row 8 [.agg (nodeL _ set kids mn mx md n neg)] 0]⟩:St)) (fun i=>∀ j k,j < i→kids[j]?=some k→nullG k=false) ?_ ?_ (fun j k h=>by omega) _ (by first|rfl|(refine prep_to (n:=1) (m:=⟨some [4,1],some 1,[]⟩) rfl rfl ?_ ?_ ?_<;>first|rfl|(simp[keepT,AV.underL,AV.under,MB.under,underL_plain,under_plain,underL_append,plain_ints,plain_span,plain_ins,plain_prg,-List.map_take,-List.map_replicate,-List.map_set,plain_kids];done)|(simp[keepT,AV.underL,AV.under,MB.under,underL_plain,under_plain,underL_append,plain_ints,plain_span,plain_ins,plain_prg,-List.map_take,-List.map_replicate,-List.map_set,plain_kids];omega)))
     ·intro i hi hg
      obtain⟨k,hk⟩:∃ k,kids[i]?=some k:=⟨_,List.getElem?_eq_getElem hi⟩
      have ihk:=ih k (List.mem_of_getElem? hk)
      have hl8:=reC_len k
      have ht8:=reC_take k
      cases hn:nullG k with
      | true=>
        rw[hn]at ihk
        rw[nullAny_true (List.mem_of_getElem? hk) hn]
        simp +contextual (disch:=omega) only[Tryz.f59,dd59,go_sem,simprocAttr,mu59,↓wrap_up,↓wrap_down,↓wrap_pred,↓wrap_sub_nat,hk,ihk,hl8,ht8]
        exact fzEq rfl rfl
      | false=>
        rw[hn]at ihk
        simp +contextual (disch:=omega) only[Tryz.f59,dd59,go_sem,simprocAttr,mu59,↓wrap_up,↓wrap_down,↓wrap_pred,↓wrap_sub_nat,hk,ihk,hl8,ht8]
        refine⟨fun j q hj hq=>?_,(by first|rfl|(refine prep_to (n:=1) (m:=⟨some [4,1],some 1,[]⟩) rfl rfl ?_ ?_ ?_<;>first|rfl|(simp[keepT,AV.underL,AV.under,MB.under,underL_plain,under_plain,underL_append,plain_ints,plain_span,plain_ins,plain_prg,-List.map_take,-List.map_replicate,-List.map_set,plain_kids];done)|(simp[keepT,AV.underL,AV.under,MB.under,underL_plain,under_plain,underL_append,plain_ints,plain_span,plain_ins,plain_prg,-List.map_take,-List.map_replicate,-List.map_set,plain_kids];omega)))⟩
        rcases Nat.lt_or_ge j i with h|h
        ·exact hg j q h hq
        ·obtain rfl:j=i:=by omega
         rw[hk]at hq;obtain rfl:=Option.some.inj hq
         exact hn
     ·intro hg
      rw[nullAny_false fun j k hj hk=>hg j k hj hk]
      simp +contextual (disch:=omega) only[Tryz.f59,dd59,go_sem,simprocAttr,mu59,↓wrap_up,↓wrap_down,↓wrap_pred,↓wrap_sub_nat]
      exact fzEq rfl rfl)
   rw[if_neg h3]
   by_cases h4:op=4
   ·subst h4
    rw[if_pos rfl]
    by_cases hm:mn≤0
    ·simp +contextual (disch:=omega) only[Tryz.f59,dd59,go_sem,simprocAttr,mu59,↓wrap_up,↓wrap_down,↓wrap_pred,↓wrap_sub_nat]
     exact fzEq rfl (by simp[hm])
    ·cases kids with
     | nil=>
       simp +contextual (disch:=omega) only[Tryz.f59,dd59,go_sem,simprocAttr,mu59,↓wrap_up,↓wrap_down,↓wrap_pred,↓wrap_sub_nat]
       exact fzEq rfl (by simp[hm,nullHd])
     | cons k ks=>
       have ihk:=ih k (List.mem_cons_self ..)
       have hl8:=reC_len k
       have ht8:=reC_take k
       simp only[List.length_cons]at hkl
       simp +contextual (disch:=omega) only[Tryz.f59,dd59,go_sem,simprocAttr,mu59,↓wrap_up,↓wrap_down,↓wrap_pred,↓wrap_sub_nat,ihk,hl8,ht8]
       exact fzEq rfl (by simp[hm,nullHd])
   rw[if_neg h4]
   by_cases h5:op=5∨op=9
   ·rw[if_pos h5]
    rcases h5 with rfl|rfl
    all_goals (
     cases kids with
     | nil=>
       simp +contextual (disch:=omega) only[Tryz.f59,dd59,go_sem,simprocAttr,mu59,↓wrap_up,↓wrap_down,↓wrap_pred,↓wrap_sub_nat]
       exact fzEq rfl (by simp[nullHd])
     | cons k ks=>
       have ihk:=ih k (List.mem_cons_self ..)
       have hl8:=reC_len k
       have ht8:=reC_take k
       simp only[List.length_cons]at hkl
       simp +contextual (disch:=omega) only[Tryz.f59,dd59,go_sem,simprocAttr,mu59,↓wrap_up,↓wrap_down,↓wrap_pred,↓wrap_sub_nat,ihk,hl8,ht8]
       exact fzEq rfl (by simp[nullHd]))
   rw[if_neg h5]
   simp +contextual (disch:=omega) only[Tryz.f59,dd59,go_sem,simprocAttr,mu59,↓wrap_up,↓wrap_down,↓wrap_pred,↓wrap_sub_nat]
   exact fzEq rfl rfl
end
section
attribute [local go_sem] W_block tySzE List.head?_drop Nat.mul_one sameAt_zero sameAt_two sameAt_three sameAt_four sameAt_five room_ok
open Go.Proofs Go.RowKit Go.IntWalk
set_option maxRecDepth 100000
set_option maxHeartbeats 8000000
theorem whole_facts {caps top op:Int} {set:List (Int×Int)} {kids:List Re} {mn mx md n:Int} {neg:Bool} (h:wholeG caps top (.mk op set kids mn mx md n neg)=true) :
  (∀ k∈kids,wholeG caps top k=true)∧kidsG op kids.length=true∧(op=4→repG mn mx md=true)∧(op=5∨op=6∨op=10→1≤n∧n≤caps)∧0≤op∧op≤11:=by
 rw[wholeG,Bool.and_eq_true,wholeL_iff]at h
 obtain⟨h1,h2⟩:=h
 simp only[formedG,Bool.and_eq_true,decide_eq_true_eq]at h1
 obtain⟨⟨⟨⟨⟨⟨a1,a2⟩,a3⟩,a4⟩,a5⟩,a6⟩,a7⟩:=h1
 refine⟨h2,a3,fun e=>?_,fun e=>?_,a1,a2⟩
 ·rw[if_pos e]at a5;exact a5
 ·rw[if_pos e]at a6;simpa using a6
end
section
attribute [local go_sem] W_block tySzE List.head?_drop Nat.mul_one sameAt_zero sameAt_two sameAt_three sameAt_four sameAt_five room_ok
open Go.Proofs Go.RowKit Go.IntWalk
set_option maxRecDepth 100000
set_option maxHeartbeats 8000000
mutual
def lenG:Re→Nat
 | .mk op set kids mn mx md n neg=>
   if op=1∨op=11 then 1 else if op=3 then lenL kids+2 * (kids.length - 1) else if op=5 then lenL kids+2
   else if op=4 then(if mx = -1 then(mn.toNat+1) * lenL kids+2 else mx.toNat * lenL kids+(mx.toNat - mn.toNat)) else lenL kids
def lenL:List Re→Nat
 | []=>0
 | k::ks=>lenG k+lenL ks
end
theorem lenL_append:∀(a b:List Re),lenL (a++b)=lenL a+lenL b
 | [],b=>by simp[lenL]
 | k::ks,b=>by simp[lenL,lenL_append ks b,Nat.add_assoc]
theorem lenL_take {l:List Re} {i:Nat} {k:Re} (h:l[i]?=some k):lenL (l.take (i+1))=lenL (l.take i)+lenG k:=by
 rw[List.take_add_one,h,lenL_append];simp[lenL]
def cutL:List Re→Nat
 | []=>0
 | k::ks=>min (lenG k) 10000+cutL ks
theorem cutL_append:∀(a b:List Re),cutL (a++b)=cutL a+cutL b
 | [],b=>by simp[cutL]
 | k::ks,b=>by simp[cutL,cutL_append ks b,Nat.add_assoc]
theorem cutL_take {l:List Re} {i:Nat} {k:Re} (h:l[i]?=some k):cutL (l.take (i+1))=cutL (l.take i)+min (lenG k) 10000:=by
 rw[List.take_add_one,h,cutL_append];simp[cutL]
theorem cutL_len:∀(l:List Re),cutL l≤l.length * 10000
 | []=>by simp[cutL]
 | k::ks=>by
   have:=cutL_len ks
   simp only[cutL,List.length_cons];omega
theorem cutL_eq:∀(l:List Re),min (cutL l) 10000=min (lenL l) 10000∧cutL l≤lenL l
 | []=>by simp[cutL,lenL]
 | k::ks=>by
   have:=cutL_eq ks
   simp only[cutL,lenL];omega
theorem f54 (caps top:Int):∀(N:Nat) (r:Re),r.wt≤N→r.wt≤1000000→wholeG caps top r=true→∀ H,call Tryz.prog pol1 30 [reAV r] H=some (I ((min (lenG r) 10000:Nat):Int),H)
 | 0,r,h,_,_=>by have:=r.wt_pos;omega
 | N+1,.mk op set kids mn mx md n neg,h,hN,hw=>by
   intro H
   have hkl:=Re.wtL_len kids
   have hwt:1+set.length+Re.wtL kids=(Re.mk op set kids mn mx md n neg).wt:=by simp[Re.wt]
   obtain⟨hwk,hkd,hrp,_,ho1,ho2⟩:=whole_facts hw
   have ih:=fun k (hk:k∈kids)=>f54 caps top N k (by have:=Re.wtL_mem hk;omega) (by have:=Re.wtL_mem hk;omega) (hwk k hk)
   rw[show reAV (.mk op set kids mn mx md n neg)=.agg (nodeL op set kids mn mx md n neg) from congrArg AV.agg reC_mk]
   refine call_run Tryz.func30 rfl rfl rfl rfl rfl rfl (fun _=>rfl) (by simp[AV.plain,AV.plainL,plain_span,plain_kids]) rfl ?_ H
   simp +contextual (disch:=omega) only[Tryz.f30,dd30,go_sem,simprocAttr,mu30,↓wrap_up,↓wrap_down,↓wrap_pred,↓wrap_sub_nat]
   refine W_count (M:=(mskOf (pol1.mask 30) (pol1.gc 30) (pol1.acts 30) 0 3)) rfl kids.length (fun i=>(⟨61,[(4,I i),(3,I ((cutL (kids.take i):Nat):Int)),(1,.rf 0 1 0 0)],[.row 8 [.agg (nodeL op set kids mn mx md n neg)] 0]⟩:St)) (fun _=>True) ?_ ?_ trivial _ (by first|rfl|(refine prep_to (n:=1) (m:=⟨some [4,3,1],some 1,[]⟩) rfl rfl ?_ ?_ ?_<;>first|rfl|(simp[keepT,AV.underL,AV.under,MB.under,underL_plain,under_plain,underL_append,plain_ints,plain_span,plain_ins,plain_prg,-List.map_take,-List.map_replicate,-List.map_set,cutL,plain_kids];done)|(simp[keepT,AV.underL,AV.under,MB.under,underL_plain,under_plain,underL_append,plain_ints,plain_span,plain_ins,plain_prg,-List.map_take,-List.map_replicate,-List.map_set,cutL,plain_kids];omega)))
   ·intro i hi _
    obtain⟨k,hk⟩:∃ k,kids[i]?=some k:=⟨_,List.getElem?_eq_getElem hi⟩
    have ihk:=ih k (List.mem_of_getElem? hk)
    have hl8:=reC_len k
    have ht8:=reC_take k
    have e1:=cutL_take hk
    have hb:=cutL_len (kids.take (i+1))
    have hbl:(kids.take (i+1)).length≤1000000:=by simp;omega
    have hm:((cutL (kids.take i):Nat):Int)+((min (lenG k) 10000:Nat):Int)=((cutL (kids.take (i+1)):Nat):Int):=by omega
    have hbb:cutL (kids.take (i+1))≤10000000000:=by omega
    simp +contextual (disch:=omega) only[Tryz.f30,dd30,go_sem,simprocAttr,mu30,↓wrap_up,↓wrap_down,↓wrap_pred,↓wrap_sub_nat,hk,ihk,hm,hl8,ht8]
    exact(by first|rfl|(refine prep_to (n:=1) (m:=⟨some [4,3,1],some 1,[]⟩) rfl rfl ?_ ?_ ?_<;>first|rfl|(simp[keepT,AV.underL,AV.under,MB.under,underL_plain,under_plain,underL_append,plain_ints,plain_span,plain_ins,plain_prg,-List.map_take,-List.map_replicate,-List.map_set,plain_kids];done)|(simp[keepT,AV.underL,AV.under,MB.under,underL_plain,under_plain,underL_append,plain_ints,plain_span,plain_ins,plain_prg,-List.map_take,-List.map_replicate,-List.map_set,plain_kids];omega)))
   ·intro _
    rw[List.take_length]
    have hop:op=0∨op=1∨op=2∨op=3∨op=4∨op=5∨op=6∨op=7∨op=8∨op=9∨op=10∨op=11:=by omega
    rw[lenG]
    have hcl:=cutL_len kids
    have hce:=cutL_eq kids
    have hbc:cutL kids≤10000000000:=by omega
    clear hcl ih hwk hw
    generalize cutL kids=C at *
    generalize lenL kids=L at *
    by_cases h1:op=1∨op=11
    ·rw[if_pos h1]
     rcases h1 with rfl|rfl
     all_goals (
      simp +contextual (disch:=omega) only[Tryz.f30,dd30,go_sem,simprocAttr,mu30,↓wrap_up,↓wrap_down,↓wrap_pred,↓wrap_sub_nat,evMin]
      exact fzEq rfl rfl)
    rw[if_neg h1]
    by_cases h3:op=3
    ·subst h3
     rw[if_pos rfl]
     have hk2:2≤kids.length:=by simpa [kidsG] using hkd
     simp +contextual (disch:=omega) only[Tryz.f30,dd30,go_sem,simprocAttr,mu30,↓wrap_up,↓wrap_down,↓wrap_pred,↓wrap_sub_nat,evMin]
     refine fzEq rfl (congrArg (AV.int .i64) ?_)
     split<;>omega
    rw[if_neg h3]
    by_cases h5:op=5
    ·subst h5
     rw[if_pos rfl]
     simp +contextual (disch:=omega) only[Tryz.f30,dd30,go_sem,simprocAttr,mu30,↓wrap_up,↓wrap_down,↓wrap_pred,↓wrap_sub_nat,evMin]
     refine fzEq rfl (congrArg (AV.int .i64) ?_)
     split<;>omega
    rw[if_neg h5]
    by_cases h4:op=4
    ·subst h4
     rw[if_pos rfl]
     have hr:=hrp rfl
     simp only[repG,Bool.and_eq_true,Bool.or_eq_true,decide_eq_true_eq,beq_iff_eq]at hr
     obtain⟨mn',rfl⟩:∃ m:Nat,mn=m:=⟨mn.toNat,by omega⟩
     have hmn:mn'≤32:=by omega
     by_cases hmx:mx = -1
     ·subst hmx
      rw[if_pos rfl]
      have hc1:((mn' + 1:Nat):Int) * (C:Int)=(((mn' + 1) * C:Nat):Int):=by simp
      have hml:(mn' + 1) * C≤33 * 10000000000:=Nat.mul_le_mul (by omega) (by omega)
      simp +contextual (disch:=omega) only[Tryz.f30,dd30,go_sem,simprocAttr,mu30,↓wrap_up,↓wrap_down,↓wrap_pred,↓wrap_sub_nat,evMin,hc1]
      refine fzEq rfl (congrArg (AV.int .i64) ?_)
      rw[Nat.succ_mul,Nat.succ_mul]
      by_cases hL:L≤9999
      ·have hCL:C=L:=by omega
       rw[hCL]
       split<;>omega
      ·split<;>omega
     ·rw[if_neg hmx]
      obtain⟨mx',rfl⟩:∃ m:Nat,mx=m:=⟨mx.toNat,by omega⟩
      have hc1:(mx':Int) * (C:Int)=((mx' * C:Nat):Int):=by simp
      have hml:mx' * C≤33 * 10000000000:=Nat.mul_le_mul (by omega) (by omega)
      simp +contextual (disch:=omega) only[Tryz.f30,dd30,go_sem,simprocAttr,mu30,↓wrap_up,↓wrap_down,↓wrap_pred,↓wrap_sub_nat,evMin,hc1]
      refine fzEq rfl (congrArg (AV.int .i64) ?_)
      by_cases hL:L≤9999
      ·have hCL:C=L:=by omega
       rw[hCL]at *
       split<;>omega
      ·have h1:L≤mx' * L:=Nat.le_mul_of_pos_left _ (by omega)
       have h2:C≤mx' * C:=Nat.le_mul_of_pos_left _ (by omega)
       split<;>omega
    rw[if_neg h4]
    simp +contextual (disch:=omega) only[Tryz.f30,dd30,go_sem,simprocAttr,mu30,↓wrap_up,↓wrap_down,↓wrap_pred,↓wrap_sub_nat,evMin]
    refine fzEq rfl (congrArg (AV.int .i64) ?_)
    split<;>omega
end
section
attribute [local go_sem] W_block
open Go.Proofs Go.RowKit Go.IntWalk
set_option maxRecDepth 100000
set_option maxHeartbeats 4000000
theorem all_int1 (l:List Int):((l.map I).all fun y=>decide (y.cells.length=1) && y.cells.all AV.ok)=true:=by
 simp only[List.all_eq_true,List.mem_map,Bool.and_eq_true,decide_eq_true_eq]
 rintro _ ⟨i,_,rfl⟩
 exact⟨rfl,fun x hx=>by
  simp only[AV.cells,List.mem_singleton]at hx
  rw[hx];rfl⟩
end
section
attribute [local go_sem] W_block tySzE List.head?_drop Nat.mul_one sameAt_zero sameAt_two sameAt_three sameAt_four sameAt_five room_ok
open Go.Proofs Go.RowKit Go.IntWalk
set_option maxRecDepth 100000
set_option maxHeartbeats 4000000
def matAV (s e:Int) (caps:List (Int×Int)):AV:=.agg [I s,I e,.sl false (caps.map spanAV)]
theorem plain_mat (s e:Int) (caps:List (Int×Int)):AV.plain (matAV s e caps)=true:=by simp[matAV,AV.plain,AV.plainL,plain_span]
end
structure Way where
 pc:Nat
 at_:Nat
 regs:List Int
inductive Out where
 | done
 | ways (l:List Way)
structure Prog1 where
 ins:Nat→Option Ins
 has:List (Int×Int)→Nat→Bool
 holds:Int→Nat→Bool
def stepW (p:Prog1) (w:Way):Out:=
 match p.ins w.pc with
 | none=>.ways []
 | some i=>
   if i.op=0 then .done
   else if i.op=1 then(if p.has i.set w.at_ then .ways [⟨w.pc+1,w.at_+1,w.regs⟩] else .ways [])
   else if i.op=2 then .ways [⟨i.x.toNat,w.at_,w.regs⟩,⟨i.y.toNat,w.at_,w.regs⟩]
   else if i.op=3 then .ways [⟨i.x.toNat,w.at_,w.regs⟩]
   else if i.op=4 then .ways [⟨w.pc+1,w.at_,w.regs.set i.n.toNat w.at_⟩]
   else(if p.holds i.n w.at_ then .ways [⟨w.pc+1,w.at_,w.regs⟩] else .ways [])
def runW (p:Prog1) (most:Int):Nat→List Way→List Way→Option (List Way)
 | fuel,todo,out=>
   match todo with
   | []=>some out
   | w::rest=>
     if(out.length:Int)=most then some out
     else
      match fuel with
      | 0=>none
      | fuel+1=>
        match stepW p w with
        | .done=>runW p most fuel rest (out++[w])
        | .ways l=>runW p most fuel (l++rest) out
def Way.like (a b:Way):Prop:=a.pc=b.pc∧a.at_=b.at_
def likeL:List Way→List Way→Prop
 | [],[]=>True
 | a::l,b::m=>a.like b∧likeL l m
 | _,_=>False
theorem likeL_append:∀ {a b c d:List Way},likeL a b→likeL c d→likeL (a++c) (b++d)
 | [],[],_,_,_,h=>h
 | _::_,_::_,_,_,h1,h2=>⟨h1.1,likeL_append h1.2 h2⟩
 | [],_::_,_,_,h,_=>h.elim
 | _::_,[],_,_,h,_=>h.elim
def likeO:Out→Out→Prop
 | .done,.done=>True
 | .ways l,.ways m=>likeL l m
 | _,_=>False
theorem stepW_like (p:Prog1) {a b:Way} (h:a.like b):likeO (stepW p a) (stepW p b):=by
 obtain⟨h1,h2⟩:=h
 unfold stepW
 rw[h1,h2]
 cases p.ins b.pc with
 | none=>exact trivial
 | some i=>
   simp only[]
   repeat' split
   all_goals first|exact trivial|exact⟨⟨rfl,rfl⟩,trivial⟩|exact⟨⟨rfl,rfl⟩,⟨rfl,rfl⟩,trivial⟩
inductive Reach (p:Prog1):Way→Way→List Way→Nat→Nat→Prop where
 | refl (w:Way):Reach p w w [] 0 0
 | on {w0 w w':Way} {E l:List Way} {d m:Nat} (h:Reach p w0 w E d m) (hs:stepW p w=.ways (w'::l)):Reach p w0 w' (l++E) d (m+1)
 | pop {w0 w e:Way} {E:List Way} {d m:Nat} (h:Reach p w0 w (e::E) d m) (hs:stepW p w=.ways []):Reach p w0 e E d (m+1)
 | found {w0 w e:Way} {E:List Way} {d m:Nat} (h:Reach p w0 w (e::E) d m) (hs:stepW p w=.done):Reach p w0 e E (d+1) (m+1)
theorem Reach.like {p:Prog1} {w0 w:Way} {E:List Way} {d m:Nat} (h:Reach p w0 w E d m) {v0:Way} (hv:w0.like v0):∃ v F,w.like v∧likeL E F∧Reach p v0 v F d m:=by
 induction h with
 | refl=>exact⟨v0,[],hv,trivial,.refl v0⟩
 | on h hs ih=>
   obtain⟨v,F,h1,h2,h3⟩:=ih
   have h4:=stepW_like p h1
   rw[hs]at h4
   cases hq:stepW p v with
   | done=>rw[hq]at h4;exact h4.elim
   | ways l2=>
     rw[hq]at h4
     cases l2 with
     | nil=>exact h4.elim
     | cons a l2=>exact⟨a,l2++F,h4.1,likeL_append h4.2 h2,.on h3 hq⟩
 | pop h hs ih=>
   obtain⟨v,F,h1,h2,h3⟩:=ih
   have h4:=stepW_like p h1
   rw[hs]at h4
   cases hq:stepW p v with
   | done=>rw[hq]at h4;exact h4.elim
   | ways l2=>
     rw[hq]at h4
     cases l2 with
     | nil=>
       cases F with
       | nil=>exact h2.elim
       | cons f F=>exact⟨f,F,h2.1,h2.2,.pop h3 hq⟩
     | cons a l2=>exact h4.elim
 | found h hs ih=>
   obtain⟨v,F,h1,h2,h3⟩:=ih
   have h4:=stepW_like p h1
   rw[hs]at h4
   cases hq:stepW p v with
   | done=>
     cases F with
     | nil=>exact h2.elim
     | cons f F=>exact⟨f,F,h2.1,h2.2,.found h3 hq⟩
   | ways l2=>rw[hq]at h4;exact h4.elim
theorem runW_step {p:Prog1} {most:Int} {fuel:Nat} {w:Way} {rest out:List Way} (h:¬ (out.length:Int)=most) :
  runW p most (fuel+1) (w::rest) out=match stepW p w with
   | .done=>runW p most fuel rest (out++[w])
   | .ways l=>runW p most fuel (l++rest) out:=by
 conv=>lhs;unfold runW
 simp only[h,if_false]
theorem runW_zero {p:Prog1} {most:Int} {w:Way} {rest out:List Way} (h:¬ (out.length:Int)=most):runW p most 0 (w::rest) out=none:=by
 unfold runW
 simp only[h,if_false]
theorem Reach.run {p:Prog1} {most:Int} {w0 w:Way} {E:List Way} {d m:Nat} (h:Reach p w0 w E d m) (S out:List Way) (hm:most = -1∨(d=0∧¬ (out.length:Int)=most)) (fuel:Nat) :
  ∃ out',out'.length=out.length+d∧runW p most (m+fuel) (w0::S) out=runW p most fuel (w::(E++S)) out':=by
 induction h generalizing fuel with
 | refl=>exact⟨out,rfl,by rw[Nat.zero_add];rfl⟩
 | @on w w' E l d m h hs ih=>
   obtain⟨out',h1,h2⟩:=ih hm (fuel+1)
   refine⟨out',h1,?_⟩
   rw[show m+1+fuel=m+(fuel+1) by omega,h2,runW_step (by rcases hm with h|⟨h,h'⟩<;>omega),hs]
   simp only[List.cons_append,List.append_assoc]
 | @pop w e E d m h hs ih=>
   obtain⟨out',h1,h2⟩:=ih hm (fuel+1)
   refine⟨out',h1,?_⟩
   rw[show m+1+fuel=m+(fuel+1) by omega,h2,runW_step (by rcases hm with h|⟨h,h'⟩<;>omega),hs]
   rfl
 | @found w e E d m h hs ih=>
   rcases hm with hm|hm
   ·obtain⟨out',h1,h2⟩:=ih (.inl hm) (fuel+1)
    refine⟨out'++[w],by simp;omega,?_⟩
    rw[show m+1+fuel=m+(fuel+1) by omega,h2,runW_step (by omega),hs]
    rfl
   ·omega
theorem Reach.short {p:Prog1} {most:Int} {w0 w:Way} {E:List Way} {d m:Nat} (h:Reach p w0 w E d m) (S out:List Way) (hm:most = -1∨(d=0∧¬ (out.length:Int)=most)) (fuel:Nat) (hf:fuel < m) :
  runW p most fuel (w0::S) out=none:=by
 induction h generalizing fuel with
 | refl=>omega
 | @on w w' E l d m h hs ih=>
   rcases Nat.lt_or_ge fuel m with h1|h1
   ·exact ih hm fuel h1
   ·obtain rfl:fuel=m:=by omega
    obtain⟨out',h2,h3⟩:=h.run S out hm 0
    rw[Nat.add_zero]at h3
    rw[h3,runW_zero (by rcases hm with h|⟨h,h'⟩<;>omega)]
 | @pop w e E d m h hs ih=>
   rcases Nat.lt_or_ge fuel m with h1|h1
   ·exact ih hm fuel h1
   ·obtain rfl:fuel=m:=by omega
    obtain⟨out',h2,h3⟩:=h.run S out hm 0
    rw[Nat.add_zero]at h3
    rw[h3,runW_zero (by rcases hm with h|⟨h,h'⟩<;>omega)]
 | @found w e E d m h hs ih=>
   rcases hm with hm|hm
   ·rcases Nat.lt_or_ge fuel m with h1|h1
    ·exact ih (.inl hm) fuel h1
    ·obtain rfl:fuel=m:=by omega
     obtain⟨out',h2,h3⟩:=h.run S out (.inl hm) 0
     rw[Nat.add_zero]at h3
     rw[h3,runW_zero (by omega)]
   ·omega
theorem circle {p:Prog1} {most:Int} {w0 w:Way} {E:List Way} {d m:Nat} (h:Reach p w0 w E d (m+1)) (hl:w0.like w):∀(fuel:Nat) (v0:Way) (S out:List Way),w0.like v0→(most = -1∨(d=0∧¬ (out.length:Int)=most)) →
  runW p most fuel (v0::S) out=none:=by
 intro fuel
 induction fuel using Nat.strongRecOn with
 | ind fuel ih=>
   intro v0 S out hv hm
   obtain⟨v,F,h1,h2,h3⟩:=h.like hv
   rcases Nat.lt_or_ge fuel (m+1) with hf|hf
   ·exact h3.short S out hm fuel hf
   ·obtain⟨out',o1,o2⟩:=h3.run S out hm (fuel - (m+1))
    rw[show m+1+(fuel - (m+1))=fuel by omega]at o2
    rw[o2]
    refine ih _ (by omega) v (F++S) out' ⟨hl.1.trans h1.1,hl.2.trans h1.2⟩ ?_
    rcases hm with hm|⟨hm,hm'⟩
    ·exact .inl hm
    ·exact .inr ⟨hm,by omega⟩
end Go.Ev
