/- Functions of the program, each with what it computes; no further conditions. -/
import Derived.Test.YtpbobopcmhpbbaaB05
import Derived.Test.YtpbobopcmhpbbaaB12
import Derived.Test.YtpbobopcmhpbbaaB10
import Derived.Test.YtpbobopcmhpbbaaB14
import Derived.Test.YtpbobopcmhpbbaaB11
import Derived.Test.YtpbobopcmhpbbaaB13
set_option linter.unusedVariables false
set_option linter.unusedSimpArgs false
namespace Go.Ev
attribute [local go_sem] eq_self bindW_some bindW_map bindW_ite bindW_iteN W_seq W_region W_draw W_cond W_condK W_ret W_skip W_exit W_scope W_label W_block blockK_norm blockK_ret blockK_exit WO_nil WO_cons WO_guard WD_nil WD_cons WD_guard guardV guardW_boolT guardW_boolF guardW_tup fpL_some fpL_none footprint thenK_norm thenK_ret thenK_exit put_some put_none ev_tmp ev_con ev_func ofK_int ofK_bool ofK_str ofK_nil evOp evBuiltin evCall evLen getElem_16 getElem_4 List.length_cons List.length_nil List.cons_append List.nil_append List.append_nil if_false if_true Bool.false_eq_true Bool.true_eq_false Option.map_some Option.map_none List.map_cons List.map_nil evBinOp evBin evUn asB_bool splitB_decide splitB_true splitB_false splitB_beq splitB_bne splitB_not endK_ret endK_norm List.getElem?_cons_zero List.getElem?_cons_succ evResults evResult packRes retK_norm retK_ret cellsAt mkVal evFieldAddr evField evIndexAddr evPart evStore evBuild evBuildSlice fillC fillE evSlice evMakeSlice evConvert getRow AV.cells List.head?_cons List.drop_zero List.drop_succ_cons List.take_zero List.take_succ_cons List.drop_nil List.take_nil List.all_cons List.all_nil AV.ok Bool.and_self Bool.and_true Bool.true_and and_self and_true true_and Nat.zero_add Nat.add_zero setCells splice pairsOk pairsX altW_none altW_some cfg_al WI_nil WI_cons FP.apart heapEq_refl sameAt_refl Bool.or_true Bool.true_or Bool.or_false srcElems elemsOf mutDst roundK_norm roundK_exit roundK_ret List.length_map List.getElem?_map Int.toNat_natCast decide_true decide_false Bool.not_true Bool.not_false List.set set_0 set_1 set_2 set_3 set_4 look_hit look lookD_hit lookD_cons lookD_nil ins_hit ins upd_hit upd rem1_hit rem1 dropT dropSt_eq initT cfg_dd cfg_bd cfg_ra actL_nil actL_cons act1 updT_hit updT frzB retE_norm retE_ret bndO bnd evEq eqCells not_false_eq_true not_true_eq_false toList_some Array.size_empty List.length_append endE_norm endE_ret head_take1 List.contains_nil List.contains_cons Bool.or_self dlt_t dlt_f dle_t dle_f dgt_t dgt_f dge_t dge_f beq_t beq_f bne_t bne_f lt_T le_T nle_T nle_F Go.IntWalk.i64_in Go.IntWalk.i64_quo Go.IntWalk.rem_in ty3
section
attribute [local go_sem] tySzE List.head?_drop Nat.mul_one sameAt_zero sameAt_two sameAt_three sameAt_four sameAt_five room_ok ty71
open Go.Proofs Go.RowKit Go.IntWalk
set_option maxRecDepth 100000
set_option linter.unusedSimpArgs false
set_option linter.unusedVariables false
set_option maxHeartbeats 8000000

theorem call_runP {P : Program} {pol : Pol} {f : Nat} {args : List AV} {r : AV} {fn : Func} {c : Code} (hf : P.funcs[f]? = some fn) (hc : fn.body = some c) (hn : (fn.name == "runtime.NumGoroutine") = false)
    (hp : pol.pure f = true) (he : pol.ext f = none) (hb : ∀ i, pol.byref f i = false) (ha : AV.plainL args = true) (hr : AV.plain r = true)
    (h : W P (call P pol) itL (pol.muts f) (cfgOf pol f 0) c ⟨args.length + (fn.ntmps - args.length), initT 0 args [], []⟩ (endK P pol f [] fn.results.toList (r, [])) .mk) (H : List MB) :
    call P pol f args H = some (r, H) := by
  rw [call_eq]
  unfold evStep
  rw [if_pos hp]
  simp only [frzArgs_plain hb H args 0 ha, underL_plain 0 args ha, if_true]
  have hbody : evBody P pol (call P pol) itL f args [] = some (r, []) := by
    refine evBody_of he hf hc hn ?_
    rw [frzArgs_plain hb [] args 0 ha, bindW_some]
    exact h
  rw [hbody]
  simp only [rebase, under_plain 0 r hr, if_true]
theorem bytes1_ok (b : List Int) : ((b.map B8).all fun y => decide ((match y with | .agg cs => cs | x => [x]).length = 1)) = true := by
  rw [List.all_eq_true]; intro x hx; obtain ⟨c, _, rfl⟩ := List.mem_map.1 hx; rfl
theorem f41e (b : List Int) (m : Nat) (h : b.take m = []) (H : List MB) : call Try.prog pol1 41 [.sl false (b.map B8), I m] H = some (.sl false [], H) := by
  refine call_runP Try.func41 rfl rfl rfl rfl (fun _ => rfl) (by simp [AV.plain, AV.plainL, plain_bytes]) rfl ?_ H
  have hal := bytes1_ok b
  have happ : ∀ t, evAppend Try.prog [] 71 71 (.sl true []) (.sl t []) = some (.sl true [], []) := fun t => by kernel_rfl
  by_cases hm : m < b.length
  · have hm0 : m = 0 := by
      rcases List.take_eq_nil_iff.1 h with h | h
      · exact h
      · subst h; simp at hm
    subst hm0
    simp +contextual (disch := omega) only [Try.f41, dd41, go_sem, ↓reduceIte, List.reduceReplicate, Nat.reduceAdd, Nat.reduceSub, reduceCtorEq, Nat.reduceLeDiff, Nat.reduceMul, Nat.reduceLT, Nat.reduceEqDiff, Int.reduceBNe, Int.reduceBEq, Int.reduceEq, Int.reduceLT, Int.reduceLE, Int.reduceGT, Int.reduceGE, mu41, Nat.reduceBEq, ↓wrap_up, ↓wrap_down, ↓wrap_pred, ↓wrap_sub_nat, Int.reduceToNat, ty5, evMin, hal, happ]
    exact ⟨hal, rfl⟩
  · have hb0 : b = [] := by
      rw [List.take_of_length_le (by omega)] at h; exact h
    subst hb0
    simp only [List.length_nil] at hm
    simp +contextual (disch := omega) only [Try.f41, dd41, go_sem, ↓reduceIte, List.reduceReplicate, Nat.reduceAdd, Nat.reduceSub, reduceCtorEq, Nat.reduceLeDiff, Nat.reduceMul, Nat.reduceLT, Nat.reduceEqDiff, Int.reduceBNe, Int.reduceBEq, Int.reduceEq, Int.reduceLT, Int.reduceLE, Int.reduceGT, Int.reduceGE, mu41, Nat.reduceBEq, ↓wrap_up, ↓wrap_down, ↓wrap_pred, ↓wrap_sub_nat, Int.reduceToNat, ty5, evMin, hal, happ]
    rfl
theorem f41 (b : List Int) (m : Nat) (h : b.take m ≠ []) (hb : m ≤ 1000000000) (n : Nat) (hn : (b.take m).length = n) (H : List MB) :
    call Try.prog pol1 41 [.sl false (b.map B8), I m] H = some (.ms H.length 1 n 0 n, H ++ [.row 1 ((b.take m).map B8) 0]) := by
  refine call_runO Try.func41 rfl rfl rfl rfl (fun _ => rfl) (by simp [AV.plain, AV.plainL, plain_bytes]) (plain_bytes _) ?_ H
  have hal := bytes1_ok b
  have hnl : n ≤ m := by rw [← hn, List.length_take]; omega
  have happ := fun t => app_new (H := []) (x := .sl t ((b.take m).map B8)) rfl h hn (by omega)
  by_cases hm : m < b.length
  · have htk : List.take m (b.map B8) = (b.take m).map B8 := by rw [List.map_take]
    simp +contextual (disch := omega) only [Try.f41, dd41, go_sem, ↓reduceIte, List.reduceReplicate, Nat.reduceAdd, Nat.reduceSub, reduceCtorEq, Nat.reduceLeDiff, Nat.reduceMul, Nat.reduceLT, Nat.reduceEqDiff, Int.reduceBNe, Int.reduceBEq, Int.reduceEq, Int.reduceLT, Int.reduceLE, Int.reduceGT, Int.reduceGE, mu41, Nat.reduceBEq, ↓wrap_up, ↓wrap_down, ↓wrap_pred, ↓wrap_sub_nat, Int.reduceToNat, ty5, evMin, hal, happ, htk]
    exact ⟨hal, retPol_own rfl rfl rfl (by rw [List.length_map]; exact hn) (fzs_plain _ (plain_bytes _)) rfl (plain_bytes _) (by rw [List.length_map]; exact hn)⟩
  · have hml : ((m : Int) < (b.length : Int)) = False := by simp; omega
    have htk : List.take b.length (b.map B8) = (b.take m).map B8 := by
      rw [List.take_of_length_le (by rw [List.length_map]; exact Nat.le_refl _), List.take_of_length_le (by omega)]
    simp +contextual (disch := omega) only [Try.f41, dd41, go_sem, ↓reduceIte, List.reduceReplicate, Nat.reduceAdd, Nat.reduceSub, reduceCtorEq, Nat.reduceLeDiff, Nat.reduceMul, Nat.reduceLT, Nat.reduceEqDiff, Int.reduceBNe, Int.reduceBEq, Int.reduceEq, Int.reduceLT, Int.reduceLE, Int.reduceGT, Int.reduceGE, mu41, Nat.reduceBEq, ↓wrap_up, ↓wrap_down, ↓wrap_pred, ↓wrap_sub_nat, Int.reduceToNat, ty5, evMin, hal, happ, htk, hml]
    exact ⟨hal, retPol_own rfl rfl rfl (by rw [List.length_map]; exact hn) (fzs_plain _ (plain_bytes _)) rfl (plain_bytes _) (by rw [List.length_map]; exact hn)⟩
end
section
attribute [local go_sem] evAppend List.map_append tySzE List.head?_drop Nat.mul_one sameAt_zero sameAt_two sameAt_three sameAt_four sameAt_five room_ok ty4 ty23 ty36 ty71 ty76 ty86
open Go.Proofs Go.RowKit Go.IntWalk
set_option maxRecDepth 100000
set_option linter.unusedSimpArgs false
set_option linter.unusedVariables false
set_option maxHeartbeats 8000000

theorem intR_ok {s : RS} (h : RdOk s) : RdOk (intR s).2 := uintR_ok h
theorem intR_64 {s : RS} (h : RdOk s) : In64 (intR s).1 := unz_64 (uintR_lt h)
theorem f121m (a b : MB) (l : List (Int × Int)) (m : Nat) (hm : l.length = m) (hl : m ≤ 1000000) :
    call Try.prog pol1 121 [.ms 2 2 m 0 m] [a, b, .row 2 (l.map spanAV) 0] = some (I (refSpans l), [a, b, .row 2 (l.map spanAV) m]) := by
  rw [call_frz (l := [.sl false (l.map spanAV)]) (H1 := [a, b, .row 2 (l.map spanAV) m]) rfl ?_ (by simp [AV.plainL, AV.plain, plain_span])]
  · exact f121 l (by omega) _
  · have hby : pol1.byref 121 0 = false := rfl
    have hz := fz_row (id := 2) (k := 2) (tot := m) (z := 0) (H := [a, b, .row 2 (l.map spanAV) 0]) (els := l.map spanAV) rfl (by rw [List.length_map]; exact hm) (plain_span l)
    simp only [frzArgs, hby, Bool.false_eq_true, if_false, hz]
    simp [mark, getRow]
abbrev setDA : Option (List (Int × Int)) → AV
  | none => .tup [.sl false [], I 2]
  | some s => .tup [.sl false (s.map spanAV), I 0]
/-- In the middle of reading spans. -/
structure SInv (r : List (Int × Int) × RS) (N i : Nat) (s : RS) (acc : List (Int × Int)) : Prop where
  he : spansR (N - i) s acc = r
  hi : i ≤ N
  hl : acc.length = i
  hok : RdOk s
theorem f87e (H : List MB) : call Try.prog pol1 87 [.sl false []] H = some (.tup [.sl false [], I 2], H) := call_of_evF (n := 12) 6 87 _ _ _ (by kernel_rfl)
abbrev byB (bs : List Int) : MB := .row 1 (bs.map B8) bs.length
theorem f87 (bs : List Int) (hb : ∀ x ∈ bs, 0 ≤ x ∧ x < 256) (hl : bs.length ≤ 1000000000) (H : List MB) :
    call Try.prog pol1 87 [.sl false (bs.map B8)] H = some (setDA (setD bs), H) := by
  by_cases h0 : bs = []
  · subst h0
    have : setD [] = none := by decide +kernel
    rw [this]
    exact f87e H
  refine call_run Try.func87 rfl rfl rfl rfl rfl rfl (fun _ => rfl) (by simp [AV.plain, AV.plainL, plain_bytes]) (by unfold setDA; split <;> simp [AV.plain, AV.plainL, plain_span]) ?_ H
  have h35 : call Try.prog pol1 35 [.sl false (bs.map B8)] [] = some (.rf 1 1 0 0, [byB bs, rdB ⟨bs, 0, 0⟩]) := f35 [] bs _ rfl h0 hl
  have h85 : ∀ K s, RdOk s → call Try.prog pol1 85 [.rf 1 1 0 0] (byB bs :: rdB s :: K) = some (I (intR s).1, byB bs :: rdB (intR s).2 :: K) := fun K s hs => f85 [byB bs] K s hs
  have h88 : ∀ K s, RdOk s → call Try.prog pol1 88 [.rf 1 1 0 0] (byB bs :: rdB s :: K) = some (I (endR s), byB bs :: rdB s :: K) := fun K s hs => f88 [byB bs] K s hs
  have hk0 : RdOk ⟨bs, 0, 0⟩ := ⟨hl, Nat.zero_le _, hb⟩
  have e1 := h85 [] ⟨bs, 0, 0⟩ hk0
  have hok := intR_ok hk0
  have h64 := intR_64 hk0
  unfold setD
  simp only
  generalize intR ⟨bs, 0, 0⟩ = o at *
  obtain ⟨n, s1⟩ := o
  simp only at e1 hok h64 ⊢
  by_cases hn : n < 0 ∨ 64 < n
  · rw [if_pos hn]
    by_cases hn0 : n < 0
    · simp +contextual (disch := omega) only [Try.f87, dd87, go_sem, ↓reduceIte, List.reduceReplicate, Nat.reduceAdd, Nat.reduceSub, reduceCtorEq, Nat.reduceLeDiff, Nat.reduceMul, Nat.reduceLT, Nat.reduceEqDiff, Int.reduceBNe, Int.reduceBEq, Int.reduceEq, Int.reduceLT, Int.reduceLE, Int.reduceGT, Int.reduceGE, mu87, Nat.reduceBEq, ↓wrap_up, ↓wrap_down, ↓wrap_pred, ↓wrap_sub_nat, Int.reduceToNat, h35, e1]
      exact ⟨_, rfl⟩
    · simp +contextual (disch := omega) only [Try.f87, dd87, go_sem, ↓reduceIte, List.reduceReplicate, Nat.reduceAdd, Nat.reduceSub, reduceCtorEq, Nat.reduceLeDiff, Nat.reduceMul, Nat.reduceLT, Nat.reduceEqDiff, Int.reduceBNe, Int.reduceBEq, Int.reduceEq, Int.reduceLT, Int.reduceLE, Int.reduceGT, Int.reduceGE, mu87, Nat.reduceBEq, ↓wrap_up, ↓wrap_down, ↓wrap_pred, ↓wrap_sub_nat, Int.reduceToNat, h35, e1]
      exact ⟨_, rfl⟩
  · rw [if_neg hn]
    obtain ⟨N, rfl⟩ : ∃ N : Nat, n = N := ⟨n.toNat, by omega⟩
    rw [Int.toNat_natCast]
    generalize hr : spansR N s1 [] = r
    simp +contextual (disch := omega) only [Try.f87, dd87, go_sem, ↓reduceIte, List.reduceReplicate, Nat.reduceAdd, Nat.reduceSub, reduceCtorEq, Nat.reduceLeDiff, Nat.reduceMul, Nat.reduceLT, Nat.reduceEqDiff, Int.reduceBNe, Int.reduceBEq, Int.reduceEq, Int.reduceLT, Int.reduceLE, Int.reduceGT, Int.reduceGE, mu87, Nat.reduceBEq, ↓wrap_up, ↓wrap_down, ↓wrap_pred, ↓wrap_sub_nat, Int.reduceToNat, h35, e1]
    refine W_for (σ := Nat × RS × List (Int × Int)) (M := (mskOf (pol1.mask 87) (pol1.gc 87) (pol1.acts 87) 0 7)) rfl (fun x => (⟨42, [(20, I (x.1 : Nat)), (19, I N), (6, .ms 2 2 x.1 0 x.1), (4, .rf 1 1 0 0)], [byB bs, rdB x.2.1, .row 2 (x.2.2.map spanAV) 0]⟩ : St)) (fun x => SInv r N x.1 x.2.1 x.2.2) (fun x => N - x.1) (0, s1, []) ?_ ⟨hr, Nat.zero_le _, rfl, hok⟩ _ ?_
    · rintro ⟨i, s, acc⟩ ⟨he, hi, hal, hs⟩
      simp only at he hi hal hs ⊢
      by_cases hlt : i < N
      · have c1 := fun K => h85 K s hs
        have hs2 := intR_ok hs
        have c2 := fun K => h85 K (intR s).2 hs2
        have hs3 := intR_ok hs2
        have hk : N - i = (N - (i + 1)) + 1 := by omega
        rw [hk, spansR] at he
        try simp only at he
        generalize intR s = p at *
        obtain ⟨lo, s2⟩ := p
        try simp only at c1 c2 hs2 hs3 he
        generalize intR s2 = q at *
        obtain ⟨hi2, s3⟩ := q
        try simp only at c1 c2 hs2 hs3 he
        simp +contextual (disch := omega) only [Try.f87, dd87, go_sem, ↓reduceIte, List.reduceReplicate, Nat.reduceAdd, Nat.reduceSub, reduceCtorEq, Nat.reduceLeDiff, Nat.reduceMul, Nat.reduceLT, Nat.reduceEqDiff, Int.reduceBNe, Int.reduceBEq, Int.reduceEq, Int.reduceLT, Int.reduceLE, Int.reduceGT, Int.reduceGE, mu87, Nat.reduceBEq, ↓wrap_up, ↓wrap_down, ↓wrap_pred, ↓wrap_sub_nat, Int.reduceToNat, c1, c2, hal]
        have htk : List.take i (List.map spanAV acc) = List.map spanAV acc := List.take_of_length_le (by rw [List.length_map]; omega)
        rw [htk]
        refine ⟨(i + 1, s3, acc ++ [(lo, hi2)]), ⟨he, by omega, by simp [hal], hs3⟩, by show N - (i + 1) < N - i; omega, ?_⟩
        rw [List.map_append]
        exact (by first | rfl | (refine prep_to (n := 3) (m := ⟨some [20, 19, 6, 4], some 3, []⟩) rfl rfl ?_ ?_ ?_ <;> first | rfl | (simp [keepT, AV.underL, AV.under, MB.under, underL_plain, under_plain, underL_append, plain_ints, plain_span, plain_ins, plain_prg, -List.map_take, -List.map_replicate, -List.map_set, plain_bytes]; done) | (simp [keepT, AV.underL, AV.under, MB.under, underL_plain, under_plain, underL_append, plain_ints, plain_span, plain_ins, plain_prg, -List.map_take, -List.map_replicate, -List.map_set, plain_bytes]; omega)))
      · have hz : N - i = 0 := by omega
        rw [hz, spansR] at he
        subst he
        have e88 := fun K => h88 K s hs
        have e121 := f121m (byB bs) (rdB s) acc i hal (by omega)
        simp only
        by_cases hen : endR s = 0
        · by_cases hrf : refSpans acc = 0
          · rw [if_neg (by simp [hen, hrf])]
            rw [hen] at e88
            rw [hrf] at e121
            simp +contextual (disch := omega) only [Try.f87, dd87, go_sem, ↓reduceIte, List.reduceReplicate, Nat.reduceAdd, Nat.reduceSub, reduceCtorEq, Nat.reduceLeDiff, Nat.reduceMul, Nat.reduceLT, Nat.reduceEqDiff, Int.reduceBNe, Int.reduceBEq, Int.reduceEq, Int.reduceLT, Int.reduceLE, Int.reduceGT, Int.reduceGE, mu87, Nat.reduceBEq, ↓wrap_up, ↓wrap_down, ↓wrap_pred, ↓wrap_sub_nat, Int.reduceToNat, e88, e121]
            exact fz_tup_row (id := 2) (k := 2) (z := i) rfl (by rw [List.length_map]; exact hal) (plain_span acc)
          · rw [if_pos (.inr hrf)]
            rw [hen] at e88
            simp +contextual (disch := omega) only [Try.f87, dd87, go_sem, ↓reduceIte, List.reduceReplicate, Nat.reduceAdd, Nat.reduceSub, reduceCtorEq, Nat.reduceLeDiff, Nat.reduceMul, Nat.reduceLT, Nat.reduceEqDiff, Int.reduceBNe, Int.reduceBEq, Int.reduceEq, Int.reduceLT, Int.reduceLE, Int.reduceGT, Int.reduceGE, mu87, Nat.reduceBEq, ↓wrap_up, ↓wrap_down, ↓wrap_pred, ↓wrap_sub_nat, Int.reduceToNat, e88, e121, hrf]
            exact ⟨_, rfl⟩
        · rw [if_pos (.inl hen)]
          simp +contextual (disch := omega) only [Try.f87, dd87, go_sem, ↓reduceIte, List.reduceReplicate, Nat.reduceAdd, Nat.reduceSub, reduceCtorEq, Nat.reduceLeDiff, Nat.reduceMul, Nat.reduceLT, Nat.reduceEqDiff, Int.reduceBNe, Int.reduceBEq, Int.reduceEq, Int.reduceLT, Int.reduceLE, Int.reduceGT, Int.reduceGE, mu87, Nat.reduceBEq, ↓wrap_up, ↓wrap_down, ↓wrap_pred, ↓wrap_sub_nat, Int.reduceToNat, e88, hen]
          exact ⟨_, rfl⟩
    · simp only []
      refine prep_to (n := 3) rfl rfl ?_ ?_ ?_
      · rfl
      · simp [MB.under, AV.underL, AV.under, underL_plain, plain_bytes]
      · rfl
end
end Go.Ev
namespace Go.Ev
set_option linter.unusedSimpArgs false
set_option linter.unusedVariables false
set_option maxRecDepth 100000

/-- A reader without an error, in front of these bytes. -/
structure On (s : RS) (r : List Int) : Prop where
  wr : s.wr = 0
  rest : s.bs.drop s.at_ = r
theorem octR_on {s : RS} {c : Int} {r : List Int} (h : On s (c :: r)) : octR s = (c, ⟨s.bs, s.at_ + 1, 0⟩) ∧ On ⟨s.bs, s.at_ + 1, 0⟩ r := by
  obtain ⟨hw, hr⟩ := h
  have hlt : s.at_ < s.bs.length := by
    have := congrArg List.length hr
    simp at this; omega
  have hc : s.bs[s.at_]? = some c := by
    have := congrArg (fun l => l[0]?) hr
    simpa using this
  refine ⟨?_, rfl, ?_⟩
  · unfold octR
    rw [if_neg (by simp [hw]), if_neg (by omega), List.getD_eq_getElem?_getD, hc]; rfl
  · show s.bs.drop (s.at_ + 1) = r
    rw [← List.drop_drop, hr]; rfl
theorem octR_of {s : RS} (h : (octR s).2.wr = 0) : ∃ r, On s ((octR s).1 :: r) ∧ On (octR s).2 r := by
  unfold octR at h ⊢
  by_cases h1 : s.wr ≠ 0
  · rw [if_pos h1] at h; exact absurd h h1
  · rw [if_neg h1] at h ⊢
    by_cases h2 : s.bs.length ≤ s.at_
    · rw [if_pos h2] at h; simp at h
    · rw [if_neg h2]
      refine ⟨s.bs.drop (s.at_ + 1), ⟨by simpa using h1, ?_⟩, rfl, rfl⟩
      rw [List.getD_eq_getElem?_getD, List.getElem?_eq_getElem (by omega)]
      exact List.drop_eq_getElem_cons (by omega)
theorem uintL_on : ∀ (k i n v : Nat) (s : RS) (r : List Int), i + (k + 1) = 10 → v < 2 ^ (64 - 7 * i) → (0 < i → 0 < v) → On s (vI v ++ r) →
    ∃ s', uintL (k + 1) i n s = (n + 2 ^ (7 * i) * v, s') ∧ On s' r ∧ s'.bs = s.bs := by
  intro k
  induction k with
  | zero =>
    intro i n v s r hk hv h0 hs
    have hi : i = 9 := by omega
    have hv2 : v < 2 := by rw [hi] at hv; simpa using hv
    rw [vI_lt (by omega)] at hs
    obtain ⟨h1, h2⟩ := octR_on hs
    refine ⟨⟨s.bs, s.at_ + 1, 0⟩, ?_, h2, rfl⟩
    unfold uintL
    simp only [h1]
    rw [if_neg (by simp), if_neg (by omega), if_pos (by omega), Int.toNat_natCast, Nat.mod_eq_of_lt (by omega), Nat.mul_comm]
  | succ k ih =>
    intro i n v s r hk hv h0 hs
    by_cases hlt : v < 128
    · rw [vI_lt hlt] at hs
      obtain ⟨h1, h2⟩ := octR_on hs
      refine ⟨⟨s.bs, s.at_ + 1, 0⟩, ?_, h2, rfl⟩
      unfold uintL
      simp only [h1]
      rw [if_neg (by simp), if_neg (by omega), if_pos (by omega), Int.toNat_natCast, Nat.mod_eq_of_lt (by omega), Nat.mul_comm]
    · rw [vI_ge (by omega)] at hs
      obtain ⟨h1, h2⟩ := octR_on hs
      have hp : 2 ^ (64 - 7 * i) = 2 ^ (64 - 7 * (i + 1)) * 128 := by
        rw [show 64 - 7 * i = (64 - 7 * (i + 1)) + 7 by omega, Nat.pow_add]
      obtain ⟨s', h3, h4, h5⟩ := ih (i + 1) (n + v % 128 * 2 ^ (7 * i)) (v / 128) ⟨s.bs, s.at_ + 1, 0⟩ r (by omega) (by omega) (by omega) h2
      refine ⟨s', ?_, h4, h5⟩
      unfold uintL
      simp only [h1]
      rw [if_neg (by simp), if_neg (by omega), if_neg (by omega), Int.toNat_natCast, show (128 + v % 128) % 128 = v % 128 by omega, h3]
      have e : n + v % 128 * 2 ^ (7 * i) + 2 ^ (7 * (i + 1)) * (v / 128) = n + 2 ^ (7 * i) * v := by
        have hv := Nat.div_add_mod v 128
        rw [show 7 * (i + 1) = 7 * i + 7 by omega, Nat.pow_add]
        generalize 2 ^ (7 * i) = P at *
        conv => rhs; rw [← hv, Nat.mul_add]
        rw [Nat.mul_comm (v % 128), show 2 ^ 7 = 128 from rfl, Nat.mul_assoc]
        omega
      rw [e]
theorem uintL_of : ∀ (k i n : Nat) (s : RS), i + (k + 1) = 10 → RdOk s → (uintL (k + 1) i n s).2.wr = 0 →
    ∃ v r, (uintL (k + 1) i n s).1 = n + 2 ^ (7 * i) * v ∧ On s (vI v ++ r) ∧ On (uintL (k + 1) i n s).2 r ∧ v < 2 ^ (64 - 7 * i) ∧ (0 < i → 0 < v) := by
  intro k
  induction k with
  | zero =>
    intro i n s hk hs h
    have hi : i = 9 := by omega
    have hq : 2 ^ (64 - 7 * i) = 2 := by rw [hi]
    have hb := octR_byte hs
    unfold uintL at h ⊢
    simp only at h ⊢
    by_cases h1 : (octR s).2.wr ≠ 0
    · rw [if_pos h1] at h; exact absurd h h1
    · rw [if_neg h1] at h ⊢
      by_cases h2 : (i = 9 ∧ 1 < (octR s).1) ∨ (0 < i ∧ (octR s).1 = 0)
      · rw [if_pos h2] at h; simp at h
      · rw [if_neg h2]
        obtain ⟨r, h3, h4⟩ := octR_of (s := s) (by simpa using h1)
        rw [if_pos (by omega)]
        generalize octR s = o at *
        obtain ⟨c, t⟩ := o
        simp only at *
        obtain ⟨c, rfl⟩ : ∃ d : Nat, c = d := ⟨c.toNat, by omega⟩
        refine ⟨c, r, ?_, ?_, h4, ?_, by omega⟩
        · rw [Int.toNat_natCast, Nat.mod_eq_of_lt (by omega), Nat.mul_comm]
        · rw [vI_lt (by omega)]; exact h3
        · omega
  | succ k ih =>
    intro i n s hk hs h
    have hb := octR_byte hs
    have hok := octR_ok hs
    unfold uintL at h ⊢
    simp only at h ⊢
    by_cases h1 : (octR s).2.wr ≠ 0
    · rw [if_pos h1] at h; exact absurd h h1
    · rw [if_neg h1] at h ⊢
      by_cases h2 : (i = 9 ∧ 1 < (octR s).1) ∨ (0 < i ∧ (octR s).1 = 0)
      · rw [if_pos h2] at h; simp at h
      · rw [if_neg h2] at h ⊢
        obtain ⟨r, h3, h4⟩ := octR_of (s := s) (by simpa using h1)
        have hp : 2 ^ (64 - 7 * i) = 2 ^ (64 - 7 * (i + 1)) * 128 := by
          rw [show 64 - 7 * i = (64 - 7 * (i + 1)) + 7 by omega, Nat.pow_add]
        have hq : 0 < 2 ^ (64 - 7 * (i + 1)) := Nat.pow_pos (by omega)
        generalize octR s = o at *
        obtain ⟨c, t⟩ := o
        simp only at *
        obtain ⟨c, rfl⟩ : ∃ d : Nat, c = d := ⟨c.toNat, by omega⟩
        rw [Int.toNat_natCast] at h ⊢
        by_cases hc : (c : Int) < 128
        · rw [if_pos hc]
          refine ⟨c, r, ?_, ?_, h4, by omega, by omega⟩
          · rw [Nat.mod_eq_of_lt (by omega), Nat.mul_comm]
          · rw [vI_lt (by omega)]; exact h3
        · rw [if_neg hc] at h ⊢
          obtain ⟨v, r2, e1, e2, e3, e4, e5⟩ := ih (i + 1) _ t (by omega) hok h
          have e5 := e5 (by omega)
          refine ⟨c % 128 + 128 * v, r2, ?_, ?_, e3, by omega, by omega⟩
          · rw [e1, show 7 * (i + 1) = 7 * i + 7 by omega, Nat.pow_add]
            generalize 2 ^ (7 * i) = P at *
            rw [Nat.mul_add, Nat.mul_comm (c % 128), show 2 ^ 7 = 128 from rfl, Nat.mul_assoc]
            omega
          · have hr : r = vI v ++ r2 := by rw [← h4.rest, ← e2.rest]
            rw [vI_ge (by omega), show (c % 128 + 128 * v) % 128 = c % 128 by omega, show (c % 128 + 128 * v) / 128 = v by omega, show 128 + c % 128 = c by omega, List.cons_append, ← hr]
            exact h3
theorem uintR_on {s : RS} {v : Nat} {r : List Int} (hv : v < 18446744073709551616) (h : On s (vI v ++ r)) : ∃ s', uintR s = (v, s') ∧ On s' r ∧ s'.bs = s.bs := by
  obtain ⟨s', h1, h2, h3⟩ := uintL_on 9 0 0 v s r rfl (by simpa using hv) (by omega) h
  refine ⟨s', ?_, h2, h3⟩
  unfold uintR
  rw [h1]; simp
theorem uintR_of {s : RS} (hs : RdOk s) (h : (uintR s).2.wr = 0) : ∃ r, On s (vI (uintR s).1 ++ r) ∧ On (uintR s).2 r := by
  obtain ⟨v, r, h1, h2, h3, h4, h5⟩ := uintL_of 9 0 0 s rfl hs h
  have : (uintR s).1 = v := by unfold uintR; rw [h1]; simp
  rw [this]
  exact ⟨r, h2, h3⟩
end Go.Ev
namespace Go.Ev
set_option linter.unusedSimpArgs false
set_option linter.unusedVariables false
set_option maxRecDepth 100000

theorem intR_on {s : RS} {v : Int} {r : List Int} (hv : In64 v) (h : On s (iE v ++ r)) : ∃ s', intR s = (v, s') ∧ On s' r ∧ s'.bs = s.bs := by
  obtain ⟨s', h1, h2, h3⟩ := uintR_on (zz_lt hv) h
  refine ⟨s', ?_, h2, h3⟩
  unfold intR
  rw [h1]
  simp only [unz_zz]
theorem intR_of {s : RS} (hs : RdOk s) (h : (intR s).2.wr = 0) : ∃ r, On s (iE (intR s).1 ++ r) ∧ On (intR s).2 r := by
  obtain ⟨r, h1, h2⟩ := uintR_of hs h
  refine ⟨r, ?_, h2⟩
  unfold intR iE
  simp only [zz_unz]
  exact h1
theorem boolR_on {s : RS} {b : Bool} {r : List Int} (h : On s (boolE b ++ r)) : ∃ s', boolR s = (b, s') ∧ On s' r ∧ s'.bs = s.bs := by
  obtain ⟨h1, h2⟩ := octR_on (c := if b then 1 else 0) (r := r) h
  refine ⟨⟨s.bs, s.at_ + 1, 0⟩, ?_, h2, rfl⟩
  unfold boolR
  simp only [h1]
  cases b <;> rfl
theorem boolR_of {s : RS} (hs : RdOk s) (h : (boolR s).2.wr = 0) : ∃ r, On s (boolE (boolR s).1 ++ r) ∧ On (boolR s).2 r := by
  have hb := octR_byte hs
  unfold boolR at h ⊢
  simp only at h ⊢
  by_cases h1 : 1 < (octR s).1
  · rw [if_pos h1] at h; simp at h
  · rw [if_neg h1] at h ⊢
    obtain ⟨r, h2, h3⟩ := octR_of h
    refine ⟨r, ?_, h3⟩
    have : boolE ((octR s).1 == 1) = [(octR s).1] := by
      rcases (by omega : (octR s).1 = 0 ∨ (octR s).1 = 1) with e | e <;> rw [e] <;> rfl
    rw [this]; exact h2
theorem rawR_on {s : RS} {b r : List Int} (hb : b.length < 18446744073709551616) (h : On s (rawE b ++ r)) : ∃ s', rawR s = (b, s') ∧ On s' r ∧ s'.bs = s.bs := by
  unfold rawE at h
  rw [List.append_assoc] at h
  obtain ⟨s', h1, h2, h3⟩ := uintR_on hb h
  obtain ⟨bs, at_, wr⟩ := s'
  obtain ⟨hw, hr⟩ := h2
  simp only at hw hr h3
  refine ⟨⟨bs, at_ + b.length, 0⟩, ?_, ⟨rfl, ?_⟩, h3⟩
  · unfold rawR
    simp only [h1]
    have hl : bs.length - at_ = b.length + r.length := by
      have := congrArg List.length hr
      simpa using this
    rw [if_neg (by simp [hw]), if_neg (by omega), hr]
    simp
  · show bs.drop (at_ + b.length) = r
    rw [← List.drop_drop, hr]; simp
theorem rawR_of {s : RS} (hs : RdOk s) (h : (rawR s).2.wr = 0) : ∃ r, On s (rawE (rawR s).1 ++ r) ∧ On (rawR s).2 r := by
  have hok := uintR_ok hs
  unfold rawR at h ⊢
  simp only at h ⊢
  by_cases h1 : (uintR s).2.wr ≠ 0
  · rw [if_pos h1] at h; exact absurd h h1
  · rw [if_neg h1] at h ⊢
    by_cases h2 : (uintR s).2.bs.length - (uintR s).2.at_ < (uintR s).1
    · rw [if_pos h2] at h; simp at h
    · rw [if_neg h2]
      obtain ⟨r, h3, h4⟩ := uintR_of hs (by simpa using h1)
      generalize uintR s = o at *
      obtain ⟨n, bs, at_, wr⟩ := o
      simp only at *
      have hl : ((bs.drop at_).take n).length = n := by rw [List.length_take, List.length_drop]; omega
      refine ⟨(bs.drop at_).drop n, ?_, rfl, ?_⟩
      · have hr := h4.rest
        simp only at hr
        unfold rawE
        rw [hl, List.append_assoc, List.take_append_drop, hr]
        exact h3
      · show bs.drop (at_ + n) = _
        rw [← List.drop_drop]
theorem spansR_on : ∀ (l : List (Int × Int)) (s : RS) (acc : List (Int × Int)) (r : List Int), In64S l → On s (l.flatMap spE ++ r) → ∃ s', spansR l.length s acc = (acc ++ l, s') ∧ On s' r ∧ s'.bs = s.bs
  | [], s, acc, r, _, h => ⟨s, by simp [spansR], h, rfl⟩
  | p :: l, s, acc, r, h64, h => by
    have hp := h64 p (by simp)
    have h' : On s (iE p.1 ++ (iE p.2 ++ (l.flatMap spE ++ r))) := by simpa [spE] using h
    obtain ⟨s1, a1, a2, a3⟩ := intR_on hp.1 h'
    obtain ⟨s2, b1, b2, b3⟩ := intR_on hp.2 a2
    obtain ⟨s3, c1, c2, c3⟩ := spansR_on l s2 (acc ++ [(p.1, p.2)]) r (fun q hq => h64 q (by simp [hq])) b2
    refine ⟨s3, ?_, c2, by rw [c3, b3, a3]⟩
    simp only [List.length_cons, spansR, a1, b1, c1]
    simp
theorem endR_on {s : RS} (h : On s []) : endR s = 0 := by
  obtain ⟨hw, hr⟩ := h
  have : s.bs.length - s.at_ = 0 := by
    have := congrArg List.length hr
    simpa using this
  unfold endR
  rw [if_neg (by simp [hw]), if_neg (by omega)]
theorem endR_of {s : RS} (h : endR s = 0) : s.wr = 0 ∧ ∀ r, On s r → r = [] := by
  unfold endR at h
  by_cases hw : s.wr ≠ 0
  · rw [if_pos hw] at h; exact absurd h hw
  · rw [if_neg hw] at h
    refine ⟨by simpa using hw, fun r hr => ?_⟩
    by_cases h2 : s.at_ < s.bs.length
    · rw [if_pos h2] at h; simp at h
    · rw [← hr.rest]; exact List.drop_of_length_le (by omega)
theorem spansR_of : ∀ (k : Nat) (s : RS) (acc : List (Int × Int)), RdOk s → (spansR k s acc).2.wr = 0 →
    ∃ l r, (spansR k s acc).1 = acc ++ l ∧ l.length = k ∧ On s (l.flatMap spE ++ r) ∧ On (spansR k s acc).2 r ∧ In64S l
  | 0, s, acc, hs, h => ⟨[], s.bs.drop s.at_, by simp [spansR], rfl, ⟨h, by simp⟩, ⟨h, rfl⟩, fun _ h => by simp at h⟩
  | k + 1, s, acc, hs, h => by
    have o1 : RdOk (intR s).2 := uintR_ok hs
    have o2 : RdOk (intR (intR s).2).2 := uintR_ok o1
    obtain ⟨l, r, h1, h2, h3, h4, h5⟩ := spansR_of k (intR (intR s).2).2 (acc ++ [((intR s).1, (intR (intR s).2).1)]) o2 h
    obtain ⟨r2, a1, a2⟩ := intR_of o1 h3.wr
    obtain ⟨r3, b1, b2⟩ := intR_of hs a1.wr
    refine ⟨((intR s).1, (intR (intR s).2).1) :: l, r, ?_, by simp [h2], ?_, h4, ?_⟩
    · show (spansR k (intR (intR s).2).2 (acc ++ [((intR s).1, (intR (intR s).2).1)])).1 = _
      rw [h1]; simp
    · have e1 : r2 = l.flatMap spE ++ r := by rw [← a2.rest, ← h3.rest]
      have e2 : r3 = iE (intR (intR s).2).1 ++ r2 := by rw [← b2.rest, ← a1.rest]
      rw [e2, e1] at b1
      simpa [spE] using b1
    · intro q hq
      rcases List.mem_cons.1 hq with e | e
      · rw [e]; exact ⟨unz_64 (uintR_lt hs), unz_64 (uintR_lt o1)⟩
      · exact h5 q e
theorem On.start (bs : List Int) : On ⟨bs, 0, 0⟩ bs := ⟨rfl, by simp⟩
theorem setD_on {s : List (Int × Int)} (h64 : In64S s) (hl : s.length ≤ 64) (hr : refSpans s = 0) : setD (setE s) = some s := by
  have h := On.start (setE s)
  unfold setE at h
  obtain ⟨s1, a1, a2, a3⟩ := intR_on (v := (s.length : Int)) ⟨by omega, by omega⟩ h
  obtain ⟨s2, b1, b2, b3⟩ := spansR_on s s1 [] [] h64 (by simpa using a2)
  unfold setD
  rw [show setE s = iE s.length ++ s.flatMap spE from rfl]
  simp only [a1, Int.toNat_natCast, b1, List.nil_append]
  rw [if_neg (by omega), endR_on b2, hr, if_neg (by simp)]
theorem setD_of {bs : List Int} {s : List (Int × Int)} (hl : bs.length ≤ 1000000000) (hb : ∀ x ∈ bs, 0 ≤ x ∧ x < 256) (h : setD bs = some s) : setE s = bs ∧ refSpans s = 0 ∧ In64S s ∧ s.length ≤ 64 := by
  have h0 : RdOk ⟨bs, 0, 0⟩ := ⟨hl, Nat.zero_le _, hb⟩
  have o1 : RdOk (intR ⟨bs, 0, 0⟩).2 := uintR_ok h0
  unfold setD at h
  simp only at h
  split at h
  · cases h
  · rename_i hn
    split at h
    · cases h
    · rename_i he
      have he2 : endR (spansR (intR ⟨bs, 0, 0⟩).1.toNat (intR ⟨bs, 0, 0⟩).2 []).2 = 0 := by
        by_cases h : endR (spansR (intR ⟨bs, 0, 0⟩).1.toNat (intR ⟨bs, 0, 0⟩).2 []).2 = 0
        · exact h
        · exact absurd (.inl h) he
      have hr : refSpans (spansR (intR ⟨bs, 0, 0⟩).1.toNat (intR ⟨bs, 0, 0⟩).2 []).1 = 0 := by
        by_cases h : refSpans (spansR (intR ⟨bs, 0, 0⟩).1.toNat (intR ⟨bs, 0, 0⟩).2 []).1 = 0
        · exact h
        · exact absurd (.inr h) he
      obtain ⟨e1, e2⟩ := endR_of he2
      obtain ⟨l, r, a1, a2, a3, a4, a5⟩ := spansR_of _ _ _ o1 e1
      obtain ⟨r2, b1, b2⟩ := intR_of h0 a3.wr
      rw [e2 r a4] at a3
      have e3 : r2 = l.flatMap spE := by rw [← b2.rest, a3.rest]; simp
      rw [a1] at h hr
      simp only [List.nil_append, Option.some.injEq] at h hr
      subst h
      refine ⟨?_, hr, a5, by omega⟩
      have h1 := b1.rest
      simp only [List.drop_zero] at h1
      rw [h1, e3, setE, a2]
      congr 1
      rw [Int.toNat_of_nonneg (by omega)]
end Go.Ev
namespace Go.Ev
attribute [local go_sem] eq_self bindW_some bindW_map bindW_ite bindW_iteN W_seq W_region W_draw W_cond W_condK W_ret W_skip W_exit W_scope W_label W_block blockK_norm blockK_ret blockK_exit WO_nil WO_cons WO_guard WD_nil WD_cons WD_guard guardV guardW_boolT guardW_boolF guardW_tup fpL_some fpL_none footprint thenK_norm thenK_ret thenK_exit put_some put_none ev_tmp ev_con ev_func ofK_int ofK_bool ofK_str ofK_nil evOp evBuiltin evCall evLen getElem_16 getElem_4 List.length_cons List.length_nil List.cons_append List.nil_append List.append_nil if_false if_true Bool.false_eq_true Bool.true_eq_false Option.map_some Option.map_none List.map_cons List.map_nil evBinOp evBin evUn asB_bool splitB_decide splitB_true splitB_false splitB_beq splitB_bne splitB_not endK_ret endK_norm List.getElem?_cons_zero List.getElem?_cons_succ evResults evResult packRes retK_norm retK_ret cellsAt mkVal evFieldAddr evField evIndexAddr evPart evStore evBuild evBuildSlice fillC fillE evSlice evMakeSlice evConvert getRow AV.cells List.head?_cons List.drop_zero List.drop_succ_cons List.take_zero List.take_succ_cons List.drop_nil List.take_nil List.all_cons List.all_nil AV.ok Bool.and_self Bool.and_true Bool.true_and and_self and_true true_and Nat.zero_add Nat.add_zero setCells splice pairsOk pairsX altW_none altW_some cfg_al WI_nil WI_cons FP.apart heapEq_refl sameAt_refl Bool.or_true Bool.true_or Bool.or_false srcElems elemsOf mutDst roundK_norm roundK_exit roundK_ret List.length_map List.getElem?_map Int.toNat_natCast decide_true decide_false Bool.not_true Bool.not_false List.set set_0 set_1 set_2 set_3 set_4 look_hit look lookD_hit lookD_cons lookD_nil ins_hit ins upd_hit upd rem1_hit rem1 dropT dropSt_eq initT cfg_dd cfg_bd cfg_ra actL_nil actL_cons act1 updT_hit updT frzB retE_norm retE_ret bndO bnd evEq eqCells not_false_eq_true not_true_eq_false toList_some Array.size_empty List.length_append endE_norm endE_ret head_take1 List.contains_nil List.contains_cons Bool.or_self dlt_t dlt_f dle_t dle_f dgt_t dgt_f dge_t dge_f beq_t beq_f bne_t bne_f lt_T le_T nle_T nle_F Go.IntWalk.i64_in Go.IntWalk.i64_quo Go.IntWalk.rem_in ty3
section
attribute [local go_sem] evAppend List.map_append tySzE List.head?_drop Nat.mul_one sameAt_zero sameAt_two sameAt_three sameAt_four sameAt_five room_ok ty0 ty4 ty23 ty33 ty35 ty36 ty71 ty76 ty87 ty104 ty152 ty153
open Go.Proofs Go.RowKit Go.IntWalk
set_option maxRecDepth 100000
set_option linter.unusedSimpArgs false
set_option linter.unusedVariables false
set_option maxHeartbeats 8000000

def prg0 : Prg := ⟨[], 0, false⟩
abbrev prgDA : Option Prg → AV
  | none => .tup [prgAV prg0, I 2]
  | some g => .tup [prgAV g, I 0]
theorem f30m (A : List MB) (l : List Ins) (caps : Int) (runes : Bool) (m : Nat) (hm : l.length = m) (hl : m ≤ 1000000) (hs : ∀ p ∈ l, p.set.length ≤ 64) :
    call Try.prog pol1 30 [.agg [.ms (A.length + 1) 5 m 0 m, I caps, .bool runes]] (A ++ [.row 3 [.agg [.ms (A.length + 1) 5 m 0 m, I caps, .bool runes]] 0, .row 5 (l.map insAV) 0]) =
      some (I (validG ⟨l, caps, runes⟩), A ++ [.row 3 [.agg [.ms (A.length + 1) 5 m 0 m, I caps, .bool runes]] 0, .row 5 (l.map insAV) m]) := by
  generalize hG : (.row 3 [.agg [.ms (A.length + 1) 5 m 0 m, I caps, .bool runes]] 0 : MB) = G
  have hg : ∀ v : MB, (A ++ [G, v])[A.length + 1]? = some v := fun v => by rw [List.getElem?_append_right (by omega)]; simp
  have hst : ∀ u v : MB, (A ++ [G, u]).set (A.length + 1) v = A ++ [G, v] := fun u v => by rw [List.set_append_right _ _ (by omega)]; simp
  rw [call_frz (l := [.agg [.sl false (l.map insAV), I caps, .bool runes]]) (H1 := A ++ [G, .row 5 (l.map insAV) m]) rfl ?_ (by simp [AV.plainL, AV.plain, plain_ins])]
  · exact f30 ⟨l, caps, runes⟩ ⟨by show l.length ≤ _; omega, fun p hp => by have := hs p hp; omega⟩ _
  · have hby : pol1.byref 30 0 = false := rfl
    have hr : getRow (A ++ [G, .row 5 (l.map insAV) 0]) (A.length + 1) = some (5, l.map insAV, 0) := by unfold getRow; rw [hg]
    have hz := fzA_row (n := 5) (tot := m) hr (by rw [List.length_map]; exact hm) (plain_ins l)
    have hmk : mark (A ++ [G, .row 5 (l.map insAV) 0]) (A.length + 1) m = A ++ [G, .row 5 (l.map insAV) m] := by
      unfold mark
      rw [hr]
      simp only [hst, Nat.zero_max]
    rw [hmk] at hz
    simp only [frzArgs, hby, Bool.false_eq_true, if_false, fz, fzA_agg, fzL, hz, fzA_int, fzA_bool]
theorem f39e (H : List MB) : call Try.prog pol1 39 [.sl false []] H = some (.tup [.agg [.sl false [], I 0, .bool false], I 2], H) := call_of_evF (n := 12) 6 39 _ _ _ (by kernel_rfl)
/-- What Decode begins with. -/
abbrev r0B : MB := .row 3 [.agg [.sl true [], I 0, .bool false]] 0
/-- In the middle of reading instructions. -/
structure NInv (r : Option (List Ins × RS)) (N i : Nat) (s : RS) (acc : List Ins) : Prop where
  he : inssR (N - i) s acc = r
  hi : i ≤ N
  hl : acc.length = i
  hok : RdOk s
  hset : ∀ p ∈ acc, p.set.length ≤ 64
def insJ (a b c d : Int) : Nat → AV
  | 0 => .agg [I 0, I 0, I 0, I 0, .sl false []]
  | 1 => .agg [I a, I 0, I 0, I 0, .sl false []]
  | 2 => .agg [I a, I b, I 0, I 0, .sl false []]
  | 3 => .agg [I a, I b, I c, I 0, .sl false []]
  | _ => .agg [I a, I b, I c, I d, .sl false []]
def sJ (s s1 s2 s3 s4 : RS) : Nat → RS
  | 0 => s
  | 1 => s1
  | 2 => s2
  | 3 => s3
  | _ => s4
theorem f39 (bs : List Int) (hb : ∀ x ∈ bs, 0 ≤ x ∧ x < 256) (hl : bs.length ≤ 1000000000) (H : List MB) :
    call Try.prog pol1 39 [.sl false (bs.map B8)] H = some (prgDA (prgD bs), H) := by
  by_cases h0 : bs = []
  · subst h0
    have : prgD [] = none := by
      have e : intR (boolR (intR ⟨[], 0, 0⟩).2).2 = (0, ⟨[], 0, 3⟩) := by kernel_rfl
      unfold prgD
      simp only [e]
      rfl
    rw [this]
    exact f39e H
  refine call_run Try.func39 rfl rfl rfl rfl rfl rfl (fun _ => rfl) (by simp [AV.plain, AV.plainL, plain_bytes]) (by unfold prgDA; split <;> simp [AV.plain, AV.plainL, plain_ins]) ?_ H
  have h35 : call Try.prog pol1 35 [.sl false (bs.map B8)] [r0B] = some (.rf 2 1 0 0, [r0B, byB bs, rdB ⟨bs, 0, 0⟩]) := f35 [r0B] bs _ rfl h0 hl
  have h85 : ∀ K s, RdOk s → call Try.prog pol1 85 [.rf 2 1 0 0] (r0B :: byB bs :: rdB s :: K) = some (I (intR s).1, r0B :: byB bs :: rdB (intR s).2 :: K) := fun K s hs => f85 [r0B, byB bs] K s hs
  have h86 : ∀ K s, RdOk s → call Try.prog pol1 86 [.rf 2 1 0 0] (r0B :: byB bs :: rdB s :: K) = some (.bool (boolR s).1, r0B :: byB bs :: rdB (boolR s).2 :: K) := fun K s hs => f86 [r0B, byB bs] K s hs
  have h88 : ∀ K s, RdOk s → call Try.prog pol1 88 [.rf 2 1 0 0] (r0B :: byB bs :: rdB s :: K) = some (I (endR s), r0B :: byB bs :: rdB s :: K) := fun K s hs => f88 [r0B, byB bs] K s hs
  have h40 : ∀ K s, RdOk s → call Try.prog pol1 40 [.rf 2 1 0 0] (r0B :: byB bs :: rdB s :: K) = some (.sl false ((rawR s).1.map B8), r0B :: byB bs :: rdB (rawR s).2 :: K) := fun K s hs => f40 [r0B, byB bs] K s hs
  have hk0 : RdOk ⟨bs, 0, 0⟩ := ⟨hl, Nat.zero_le _, hb⟩
  have c1 := fun K => h85 K ⟨bs, 0, 0⟩ hk0
  have ok1 := intR_ok hk0
  have cp64 := intR_64 hk0
  have c2 := fun K => h86 K (intR ⟨bs, 0, 0⟩).2 ok1
  have ok2 := boolR_ok ok1
  have c3 := fun K => h85 K (boolR (intR ⟨bs, 0, 0⟩).2).2 ok2
  have ok3 := intR_ok ok2
  have n64 := intR_64 ok2
  unfold prgD
  simp only
  generalize intR (boolR (intR ⟨bs, 0, 0⟩).2).2 = o3 at *
  generalize boolR (intR ⟨bs, 0, 0⟩).2 = o2 at *
  generalize intR ⟨bs, 0, 0⟩ = o1 at *
  obtain ⟨caps, s1⟩ := o1
  obtain ⟨runes, s2⟩ := o2
  obtain ⟨n, s3⟩ := o3
  simp only at c1 c2 c3 ok1 ok2 ok3 cp64 n64 ⊢
  by_cases hn : n < 1 ∨ 8192 < n
  · rw [if_pos hn]
    by_cases hn0 : n < 1
    · simp +contextual (disch := omega) only [Try.f39, dd39, go_sem, ↓reduceIte, List.reduceReplicate, Nat.reduceAdd, Nat.reduceSub, reduceCtorEq, Nat.reduceLeDiff, Nat.reduceMul, Nat.reduceLT, Nat.reduceEqDiff, Int.reduceBNe, Int.reduceBEq, Int.reduceEq, Int.reduceLT, Int.reduceLE, Int.reduceGT, Int.reduceGE, mu39, Nat.reduceBEq, ↓wrap_up, ↓wrap_down, ↓wrap_pred, ↓wrap_sub_nat, Int.reduceToNat, h35, c1, c2, c3]
      exact ⟨_, rfl⟩
    · simp +contextual (disch := omega) only [Try.f39, dd39, go_sem, ↓reduceIte, List.reduceReplicate, Nat.reduceAdd, Nat.reduceSub, reduceCtorEq, Nat.reduceLeDiff, Nat.reduceMul, Nat.reduceLT, Nat.reduceEqDiff, Int.reduceBNe, Int.reduceBEq, Int.reduceEq, Int.reduceLT, Int.reduceLE, Int.reduceGT, Int.reduceGE, mu39, Nat.reduceBEq, ↓wrap_up, ↓wrap_down, ↓wrap_pred, ↓wrap_sub_nat, Int.reduceToNat, h35, c1, c2, c3]
      exact ⟨_, rfl⟩
  · rw [if_neg hn]
    obtain ⟨N, rfl⟩ : ∃ N : Nat, n = N := ⟨n.toNat, by omega⟩
    rw [Int.toNat_natCast]
    generalize hr : inssR N s3 [] = r
    simp +contextual (disch := omega) only [Try.f39, dd39, go_sem, ↓reduceIte, List.reduceReplicate, Nat.reduceAdd, Nat.reduceSub, reduceCtorEq, Nat.reduceLeDiff, Nat.reduceMul, Nat.reduceLT, Nat.reduceEqDiff, Int.reduceBNe, Int.reduceBEq, Int.reduceEq, Int.reduceLT, Int.reduceLE, Int.reduceGT, Int.reduceGE, mu39, Nat.reduceBEq, ↓wrap_up, ↓wrap_down, ↓wrap_pred, ↓wrap_sub_nat, Int.reduceToNat, h35, c1, c2, c3]
    refine W_for (σ := Nat × RS × List Ins) (M := (mskOf (pol1.mask 39) (pol1.gc 39) (pol1.acts 39) 0 9)) rfl (fun x => (⟨78, [(30, I (x.1 : Nat)), (29, I N), (5, .rf 3 1 0 0), (4, .rf 2 1 0 0), (2, .rf 0 1 0 0)], [r0B, byB bs, rdB x.2.1, .row 3 [.agg [.ms 4 5 x.1 0 x.1, I caps, .bool runes]] 0, .row 5 (x.2.2.map insAV) 0]⟩ : St)) (fun x => NInv r N x.1 x.2.1 x.2.2) (fun x => N - x.1) (0, s3, []) ?_ ⟨hr, Nat.zero_le _, rfl, ok3, fun _ h => by simp at h⟩ _ ?_
    · rintro ⟨i, s, acc⟩ ⟨he, hi, hal, hs, hset⟩
      simp only at he hi hal hs hset ⊢
      by_cases hlt : i < N
      · have a1 := fun K => h85 K s hs
        have t1 := intR_ok hs
        have a2 := fun K => h85 K (intR s).2 t1
        have t2 := intR_ok t1
        have a3 := fun K => h85 K (intR (intR s).2).2 t2
        have t3 := intR_ok t2
        have a4 := fun K => h85 K (intR (intR (intR s).2).2).2 t3
        have t4 := intR_ok t3
        have a5 := fun K => h40 K (intR (intR (intR (intR s).2).2).2).2 t4
        have t5 := rawR_ok t4
        have t6 := rawR_len t4
        have hk : N - i = (N - (i + 1)) + 1 := by omega
        rw [hk, inssR] at he
        unfold insR at he
        simp only at he
        generalize rawR (intR (intR (intR (intR s).2).2).2).2 = q5 at *
        generalize intR (intR (intR (intR s).2).2).2 = q4 at *
        generalize intR (intR (intR s).2).2 = q3 at *
        generalize intR (intR s).2 = q2 at *
        generalize intR s = q1 at *
        obtain ⟨va, sa⟩ := q1
        obtain ⟨vb, sb⟩ := q2
        obtain ⟨vc, sc⟩ := q3
        obtain ⟨vd, sd⟩ := q4
        obtain ⟨raw, se⟩ := q5
        simp only at he a1 a2 a3 a4 a5 t1 t2 t3 t4 t5 t6
        have hz : ∀ H, fzs [.agg [I 0, I 0, I 0, I 0, .sl true []]] H = some ([.agg [I 0, I 0, I 0, I 0, .sl false []]], H) := fun H => rfl
        simp +contextual (disch := omega) only [Try.f39, dd39, go_sem, ↓reduceIte, List.reduceReplicate, Nat.reduceAdd, Nat.reduceSub, reduceCtorEq, Nat.reduceLeDiff, Nat.reduceMul, Nat.reduceLT, Nat.reduceEqDiff, Int.reduceBNe, Int.reduceBEq, Int.reduceEq, Int.reduceLT, Int.reduceLE, Int.reduceGT, Int.reduceGE, mu39, Nat.reduceBEq, ↓wrap_up, ↓wrap_down, ↓wrap_pred, ↓wrap_sub_nat, Int.reduceToNat, hz, AV.beqL_refl]
        refine W_count (M := (mskOf (pol1.mask 39) (pol1.gc 39) (pol1.acts 39) 0 12)) rfl 4 (fun j => (⟨78, [(38, I j), (37, I 4), (36, .sl true [.rf 5 1 0 0, .rf 5 1 0 1, .rf 5 1 0 2, .rf 5 1 0 3]), (30, I i), (29, I N), (7, .rf 5 1 0 0), (5, .rf 3 1 0 0), (4, .rf 2 1 0 0), (2, .rf 0 1 0 0)], [r0B, byB bs, rdB (sJ s sa sb sc sd j), .row 3 [.agg [.ms 4 5 i 0 i, I caps, .bool runes]] 0, .row 5 (acc.map insAV) 0, .row 5 [insJ va vb vc vd j] 0]⟩ : St)) (fun _ => True) ?_ ?_ trivial _ ?_
        · intro j hj _
          rcases (by omega : j = 0 ∨ j = 1 ∨ j = 2 ∨ j = 3) with rfl | rfl | rfl | rfl
          · simp only [sJ, insJ]
            simp +contextual (disch := omega) only [Try.f39, dd39, go_sem, ↓reduceIte, List.reduceReplicate, Nat.reduceAdd, Nat.reduceSub, reduceCtorEq, Nat.reduceLeDiff, Nat.reduceMul, Nat.reduceLT, Nat.reduceEqDiff, Int.reduceBNe, Int.reduceBEq, Int.reduceEq, Int.reduceLT, Int.reduceLE, Int.reduceGT, Int.reduceGE, mu39, Nat.reduceBEq, ↓wrap_up, ↓wrap_down, ↓wrap_pred, ↓wrap_sub_nat, Int.reduceToNat, a1]
            exact (by first | rfl | (refine prep_to (n := 6) (m := ⟨some [38, 37, 36, 30, 29, 7, 5, 4, 2], some 6, []⟩) rfl rfl ?_ ?_ ?_ <;> first | rfl | (simp [keepT, AV.underL, AV.under, MB.under, underL_plain, under_plain, underL_append, plain_ints, plain_span, plain_ins, plain_prg, -List.map_take, -List.map_replicate, -List.map_set, plain_bytes, plain_ins]; done) | (simp [keepT, AV.underL, AV.under, MB.under, underL_plain, under_plain, underL_append, plain_ints, plain_span, plain_ins, plain_prg, -List.map_take, -List.map_replicate, -List.map_set, plain_bytes, plain_ins]; omega)))
          · simp only [sJ, insJ]
            simp +contextual (disch := omega) only [Try.f39, dd39, go_sem, ↓reduceIte, List.reduceReplicate, Nat.reduceAdd, Nat.reduceSub, reduceCtorEq, Nat.reduceLeDiff, Nat.reduceMul, Nat.reduceLT, Nat.reduceEqDiff, Int.reduceBNe, Int.reduceBEq, Int.reduceEq, Int.reduceLT, Int.reduceLE, Int.reduceGT, Int.reduceGE, mu39, Nat.reduceBEq, ↓wrap_up, ↓wrap_down, ↓wrap_pred, ↓wrap_sub_nat, Int.reduceToNat, a2]
            exact (by first | rfl | (refine prep_to (n := 6) (m := ⟨some [38, 37, 36, 30, 29, 7, 5, 4, 2], some 6, []⟩) rfl rfl ?_ ?_ ?_ <;> first | rfl | (simp [keepT, AV.underL, AV.under, MB.under, underL_plain, under_plain, underL_append, plain_ints, plain_span, plain_ins, plain_prg, -List.map_take, -List.map_replicate, -List.map_set, plain_bytes, plain_ins]; done) | (simp [keepT, AV.underL, AV.under, MB.under, underL_plain, under_plain, underL_append, plain_ints, plain_span, plain_ins, plain_prg, -List.map_take, -List.map_replicate, -List.map_set, plain_bytes, plain_ins]; omega)))
          · simp only [sJ, insJ]
            simp +contextual (disch := omega) only [Try.f39, dd39, go_sem, ↓reduceIte, List.reduceReplicate, Nat.reduceAdd, Nat.reduceSub, reduceCtorEq, Nat.reduceLeDiff, Nat.reduceMul, Nat.reduceLT, Nat.reduceEqDiff, Int.reduceBNe, Int.reduceBEq, Int.reduceEq, Int.reduceLT, Int.reduceLE, Int.reduceGT, Int.reduceGE, mu39, Nat.reduceBEq, ↓wrap_up, ↓wrap_down, ↓wrap_pred, ↓wrap_sub_nat, Int.reduceToNat, a3]
            exact (by first | rfl | (refine prep_to (n := 6) (m := ⟨some [38, 37, 36, 30, 29, 7, 5, 4, 2], some 6, []⟩) rfl rfl ?_ ?_ ?_ <;> first | rfl | (simp [keepT, AV.underL, AV.under, MB.under, underL_plain, under_plain, underL_append, plain_ints, plain_span, plain_ins, plain_prg, -List.map_take, -List.map_replicate, -List.map_set, plain_bytes, plain_ins]; done) | (simp [keepT, AV.underL, AV.under, MB.under, underL_plain, under_plain, underL_append, plain_ints, plain_span, plain_ins, plain_prg, -List.map_take, -List.map_replicate, -List.map_set, plain_bytes, plain_ins]; omega)))
          · simp only [sJ, insJ]
            simp +contextual (disch := omega) only [Try.f39, dd39, go_sem, ↓reduceIte, List.reduceReplicate, Nat.reduceAdd, Nat.reduceSub, reduceCtorEq, Nat.reduceLeDiff, Nat.reduceMul, Nat.reduceLT, Nat.reduceEqDiff, Int.reduceBNe, Int.reduceBEq, Int.reduceEq, Int.reduceLT, Int.reduceLE, Int.reduceGT, Int.reduceGE, mu39, Nat.reduceBEq, ↓wrap_up, ↓wrap_down, ↓wrap_pred, ↓wrap_sub_nat, Int.reduceToNat, a4]
            exact (by first | rfl | (refine prep_to (n := 6) (m := ⟨some [38, 37, 36, 30, 29, 7, 5, 4, 2], some 6, []⟩) rfl rfl ?_ ?_ ?_ <;> first | rfl | (simp [keepT, AV.underL, AV.under, MB.under, underL_plain, under_plain, underL_append, plain_ints, plain_span, plain_ins, plain_prg, -List.map_take, -List.map_replicate, -List.map_set, plain_bytes, plain_ins]; done) | (simp [keepT, AV.underL, AV.under, MB.under, underL_plain, under_plain, underL_append, plain_ints, plain_span, plain_ins, plain_prg, -List.map_take, -List.map_replicate, -List.map_set, plain_bytes, plain_ins]; omega)))
        · intro _
          simp only [sJ, insJ]
          have htk : List.take i (List.map insAV acc) = List.map insAV acc := List.take_of_length_le (by rw [List.length_map]; omega)
          by_cases ho : va = 1
          · rw [if_pos ho] at he
            subst ho
            have e87 := fun H => f87 raw t6.2 (by have := t4.len; omega) H
            cases hsd : setD raw with
            | none =>
              rw [hsd] at he e87
              simp only at he e87
              subst he
              simp +contextual (disch := omega) only [Try.f39, dd39, go_sem, ↓reduceIte, List.reduceReplicate, Nat.reduceAdd, Nat.reduceSub, reduceCtorEq, Nat.reduceLeDiff, Nat.reduceMul, Nat.reduceLT, Nat.reduceEqDiff, Int.reduceBNe, Int.reduceBEq, Int.reduceEq, Int.reduceLT, Int.reduceLE, Int.reduceGT, Int.reduceGE, mu39, Nat.reduceBEq, ↓wrap_up, ↓wrap_down, ↓wrap_pred, ↓wrap_sub_nat, Int.reduceToNat, a5, e87]
              exact ⟨_, rfl⟩
            | some set =>
              obtain ⟨_, _, _, hs64⟩ := setD_of (by have := t4.len; omega) t6.2 hsd
              rw [hsd] at he e87
              simp only at he e87
              simp +contextual (disch := omega) only [Try.f39, dd39, go_sem, ↓reduceIte, List.reduceReplicate, Nat.reduceAdd, Nat.reduceSub, reduceCtorEq, Nat.reduceLeDiff, Nat.reduceMul, Nat.reduceLT, Nat.reduceEqDiff, Int.reduceBNe, Int.reduceBEq, Int.reduceEq, Int.reduceLT, Int.reduceLE, Int.reduceGT, Int.reduceGE, mu39, Nat.reduceBEq, ↓wrap_up, ↓wrap_down, ↓wrap_pred, ↓wrap_sub_nat, Int.reduceToNat, a5, e87, htk]
              refine ⟨hal, (i + 1, se, acc ++ [⟨1, vb, vc, vd, set⟩]), ⟨he, by omega, by simp [hal], t5, fun p hp => ?_⟩, by show N - (i + 1) < N - i; omega, ?_⟩
              · rcases List.mem_append.1 hp with h | h
                · exact hset p h
                · rw [List.mem_singleton.1 h]; exact hs64
              · rw [List.map_append]
                exact (by first | rfl | (refine prep_to (n := 5) (m := ⟨some [30, 29, 5, 4, 2], some 5, []⟩) rfl rfl ?_ ?_ ?_ <;> first | rfl | (simp [keepT, AV.underL, AV.under, MB.under, underL_plain, under_plain, underL_append, plain_ints, plain_span, plain_ins, plain_prg, -List.map_take, -List.map_replicate, -List.map_set, plain_bytes]; done) | (simp [keepT, AV.underL, AV.under, MB.under, underL_plain, under_plain, underL_append, plain_ints, plain_span, plain_ins, plain_prg, -List.map_take, -List.map_replicate, -List.map_set, plain_bytes]; omega)))
          · rw [if_neg ho] at he
            simp only at he
            simp +contextual (disch := omega) only [Try.f39, dd39, go_sem, ↓reduceIte, List.reduceReplicate, Nat.reduceAdd, Nat.reduceSub, reduceCtorEq, Nat.reduceLeDiff, Nat.reduceMul, Nat.reduceLT, Nat.reduceEqDiff, Int.reduceBNe, Int.reduceBEq, Int.reduceEq, Int.reduceLT, Int.reduceLE, Int.reduceGT, Int.reduceGE, mu39, Nat.reduceBEq, ↓wrap_up, ↓wrap_down, ↓wrap_pred, ↓wrap_sub_nat, Int.reduceToNat, htk]
            refine ⟨hal, (i + 1, sd, acc ++ [⟨va, vb, vc, vd, []⟩]), ⟨he, by omega, by simp [hal], t4, fun p hp => ?_⟩, by show N - (i + 1) < N - i; omega, ?_⟩
            · rcases List.mem_append.1 hp with h | h
              · exact hset p h
              · rw [List.mem_singleton.1 h]; simp
            · rw [List.map_append]
              exact (by first | rfl | (refine prep_to (n := 5) (m := ⟨some [30, 29, 5, 4, 2], some 5, []⟩) rfl rfl ?_ ?_ ?_ <;> first | rfl | (simp [keepT, AV.underL, AV.under, MB.under, underL_plain, under_plain, underL_append, plain_ints, plain_span, plain_ins, plain_prg, -List.map_take, -List.map_replicate, -List.map_set, plain_bytes]; done) | (simp [keepT, AV.underL, AV.under, MB.under, underL_plain, under_plain, underL_append, plain_ints, plain_span, plain_ins, plain_prg, -List.map_take, -List.map_replicate, -List.map_set, plain_bytes]; omega)))
        · exact (by first | rfl | (refine prep_to (n := 6) (m := ⟨some [38, 37, 36, 30, 29, 7, 5, 4, 2], some 6, []⟩) rfl rfl ?_ ?_ ?_ <;> first | rfl | (simp [keepT, AV.underL, AV.under, MB.under, underL_plain, under_plain, underL_append, plain_ints, plain_span, plain_ins, plain_prg, -List.map_take, -List.map_replicate, -List.map_set, plain_bytes, plain_ins]; done) | (simp [keepT, AV.underL, AV.under, MB.under, underL_plain, under_plain, underL_append, plain_ints, plain_span, plain_ins, plain_prg, -List.map_take, -List.map_replicate, -List.map_set, plain_bytes, plain_ins]; omega)))
      · have hz : N - i = 0 := by omega
        rw [hz, inssR] at he
        subst he
        simp only
        have hiN : i = N := by omega
        have e88 := fun K => h88 K s hs
        have e30 : call Try.prog pol1 30 [.agg [.ms 4 5 i 0 i, I caps, .bool runes]] [r0B, byB bs, rdB s, .row 3 [.agg [.ms 4 5 i 0 i, I caps, .bool runes]] 0, .row 5 (acc.map insAV) 0] = some (I (validG ⟨acc, caps, runes⟩), [r0B, byB bs, rdB s, .row 3 [.agg [.ms 4 5 i 0 i, I caps, .bool runes]] 0, .row 5 (acc.map insAV) i]) := f30m [r0B, byB bs, rdB s] acc caps runes i hal (by omega) hset
        by_cases hen : endR s = 0
        · rw [hen] at e88
          by_cases hv : validG ⟨acc, caps, runes⟩ = 0
          · rw [if_neg (by simp [hen, hv])]
            rw [hv] at e30
            simp +contextual (disch := omega) only [Try.f39, dd39, go_sem, ↓reduceIte, List.reduceReplicate, Nat.reduceAdd, Nat.reduceSub, reduceCtorEq, Nat.reduceLeDiff, Nat.reduceMul, Nat.reduceLT, Nat.reduceEqDiff, Int.reduceBNe, Int.reduceBEq, Int.reduceEq, Int.reduceLT, Int.reduceLE, Int.reduceGT, Int.reduceGE, mu39, Nat.reduceBEq, ↓wrap_up, ↓wrap_down, ↓wrap_pred, ↓wrap_sub_nat, Int.reduceToNat, e88, e30]
            have hzr := fzA_row (n := 5) (H := [.row 3 [.agg [.ms 4 5 i 0 i, I caps, .bool runes]] 0, byB bs, rdB s, .row 3 [.agg [.ms 4 5 i 0 i, I caps, .bool runes]] 0, .row 5 (acc.map insAV) i]) (id := 4) (tot := i) (k := 5) (z := i) rfl (by rw [List.length_map]; exact hal) (plain_ins acc)
            refine ⟨mark [.row 3 [.agg [.ms 4 5 i 0 i, I caps, .bool runes]] 0, byB bs, rdB s, .row 3 [.agg [.ms 4 5 i 0 i, I caps, .bool runes]] 0, .row 5 (acc.map insAV) i] 4 i, ?_⟩
            simp only [fz, fzA_tup, fzL, fzA_agg, hzr, fzA_int, fzA_bool]
          · rw [if_pos (.inr hv)]
            simp +contextual (disch := omega) only [Try.f39, dd39, go_sem, ↓reduceIte, List.reduceReplicate, Nat.reduceAdd, Nat.reduceSub, reduceCtorEq, Nat.reduceLeDiff, Nat.reduceMul, Nat.reduceLT, Nat.reduceEqDiff, Int.reduceBNe, Int.reduceBEq, Int.reduceEq, Int.reduceLT, Int.reduceLE, Int.reduceGT, Int.reduceGE, mu39, Nat.reduceBEq, ↓wrap_up, ↓wrap_down, ↓wrap_pred, ↓wrap_sub_nat, Int.reduceToNat, e88, e30, hv]
            exact ⟨_, rfl⟩
        · rw [if_pos (.inl hen)]
          simp +contextual (disch := omega) only [Try.f39, dd39, go_sem, ↓reduceIte, List.reduceReplicate, Nat.reduceAdd, Nat.reduceSub, reduceCtorEq, Nat.reduceLeDiff, Nat.reduceMul, Nat.reduceLT, Nat.reduceEqDiff, Int.reduceBNe, Int.reduceBEq, Int.reduceEq, Int.reduceLT, Int.reduceLE, Int.reduceGT, Int.reduceGE, mu39, Nat.reduceBEq, ↓wrap_up, ↓wrap_down, ↓wrap_pred, ↓wrap_sub_nat, Int.reduceToNat, e88, hen]
          exact ⟨_, rfl⟩
    · exact (by first | rfl | (refine prep_to (n := 5) (m := ⟨some [30, 29, 5, 4, 2], some 5, []⟩) rfl rfl ?_ ?_ ?_ <;> first | rfl | (simp [keepT, AV.underL, AV.under, MB.under, underL_plain, under_plain, underL_append, plain_ints, plain_span, plain_ins, plain_prg, -List.map_take, -List.map_replicate, -List.map_set, plain_bytes]; done) | (simp [keepT, AV.underL, AV.under, MB.under, underL_plain, under_plain, underL_append, plain_ints, plain_span, plain_ins, plain_prg, -List.map_take, -List.map_replicate, -List.map_set, plain_bytes]; omega)))
end
section
attribute [local go_sem] evAppend List.map_append ty0 ty4 ty22 ty23 ty39 ty41 ty86 ty108
open Go.Proofs Go.RowKit Go.IntWalk
set_option maxRecDepth 100000
set_option linter.unusedSimpArgs false
set_option linter.unusedVariables false
set_option maxHeartbeats 4000000

/-- Small enough, and all of its numbers are numbers. -/
structure PrgN (g : Prg) (a b : Nat) : Prop where
  len : g.ins.length ≤ a
  sets : ∀ i ∈ g.ins, i.set.length ≤ b
  caps : In64 g.caps


theorem get5 (a b c d e : Int) {j : Nat} (h : j < 5) : ([I a, I b, I c, I d, I e] : List AV)[j]? = some (I ([a, b, c, d, e].getD j 0)) := by
  rcases j with _ | _ | _ | _ | _ | j
  all_goals first | rfl | omega
theorem get4 (a b c d : Int) {j : Nat} (h : j < 4) : ([I a, I b, I c, I d] : List AV)[j]? = some (I ([a, b, c, d].getD j 0)) := by
  rcases j with _ | _ | _ | _ | j
  all_goals first | rfl | omega
theorem fz_ms {id m tot : Nat} {ins : List Ins} {caps : Int} {runes : Bool} {H : List MB} (hr : getRow H id = some (5, ins.map insAV, 0)) (hn : tot = ins.length) (hm : m ≤ tot) :
    ∃ H', fz (.agg [.ms id 5 tot 0 m, I caps, .bool runes]) H = some (.agg [.sl false ((ins.take m).map insAV), I caps, .bool runes], H') := by
  subst hn
  simp only [fz, fzA_agg, fzL]
  rw [fzA_ms (n := 5) (k := 5) (ys := (ins.take m).map insAV) hr (by simp) (by omega) (by
    rw [List.drop_zero, ← List.map_take]; exact fzL_plain _ _ _ (plain_ins _))]
  exact ⟨_, rfl⟩
theorem all_ins5 (l : List Ins) : ((l.map insAV).all fun y => decide (y.cells.length = 5) && y.cells.all AV.ok) = true := by
  simp only [List.all_eq_true, List.mem_map, Bool.and_eq_true, decide_eq_true_eq]
  rintro _ ⟨i, _, rfl⟩
  exact ⟨rfl, fun x hx => by
    simp only [AV.cells, List.mem_cons, List.not_mem_nil, or_false] at hx
    rcases hx with rfl | rfl | rfl | rfl | rfl <;> rfl⟩
theorem fz_all {id tot : Nat} {ins : List Ins} {caps : Int} {runes : Bool} {H : List MB} (hr : getRow H id = some (5, ins.map insAV, 0)) (hn : tot = ins.length) :
    ∃ H', fz (.agg [.ms id 5 tot 0 tot, I caps, .bool runes]) H = some (prgAV ⟨ins, caps, runes⟩, H') := by
  obtain ⟨H', h⟩ := fz_ms (caps := caps) (runes := runes) hr hn (Nat.le_refl _)
  rw [hn, List.take_length] at h
  rw [hn]
  exact ⟨H', h⟩
theorem fzL_append {j : List AV → List MB → Option (List AV × List MB)} (ys : List AV) : ∀ (xs : List AV) (H : List MB), fzL j (xs ++ ys) H = (match fzL j xs H with
    | some (a, H1) => (match fzL j ys H1 with
      | some (b, H2) => some (a ++ b, H2)
      | none => none)
    | none => none)
  | [], H => by
    simp only [List.nil_append, fzL]
    cases fzL j ys H with
    | none => rfl
    | some q => rfl
  | x :: xs, H => by
    simp only [List.cons_append, fzL]
    cases fzA j x H with
    | none => rfl
    | some q =>
      simp only [fzL_append ys xs q.2]
      cases fzL j xs q.2 with
      | none => rfl
      | some q2 =>
        simp only []
        cases fzL j ys q2.2 with
        | none => rfl
        | some q3 => rfl
theorem fz_set {tot m i : Nat} {ins : List Ins} {op px py pn caps : Int} {runes : Bool} {sp : List (Int × Int)} {r0 r1 : MB} (hi : i < ins.length) (hn : tot = ins.length) (hm : m = sp.length) :
    ∃ H', fz (.agg [.ms 2 5 tot 0 tot, I caps, .bool runes]) [r0, r1, .row 5 ((ins.map insAV).set i (.agg [I op, I px, I py, I pn, .ms 3 2 m 0 m])) 0, .row 2 (sp.map spanAV) 0] =
      some (prgAV ⟨ins.set i ⟨op, px, py, pn, sp⟩, caps, runes⟩, H') := by
  subst hn; subst hm
  obtain ⟨E, hE⟩ : ∃ E, (ins.map insAV).set i (.agg [I op, I px, I py, I pn, .ms 3 2 sp.length 0 sp.length]) = E := ⟨_, rfl⟩
  have hl : E.length = ins.length := by rw [← hE]; simp
  have ht : E = (ins.take i).map insAV ++ (.agg [I op, I px, I py, I pn, .ms 3 2 sp.length 0 sp.length]) :: (ins.drop (i + 1)).map insAV := by
    rw [← hE, List.set_eq_take_append_cons_drop, if_pos (by simpa using hi), List.map_take, List.map_drop]
  rw [hE]
  have hsp : ∀ (j : Nat) (H : List MB), getRow H 3 = some (2, sp.map spanAV, 0) → fzA (fzJ (j + 1)) (.ms 3 2 sp.length 0 sp.length) H = some (.sl false (sp.map spanAV), mark H 3 (0 + sp.length)) := fun j H h =>
    fzA_ms h (by simp) (by simp) (by rw [List.drop_zero, List.take_of_length_le (by simp)]; exact fzL_plain _ _ _ (plain_span _))
  have hrow : ∃ H', fzL (fzJ 5) E [r0, r1, .row 5 E (max 0 (0 + ins.length)), .row 2 (sp.map spanAV) 0] = some ((ins.set i ⟨op, px, py, pn, sp⟩).map insAV, H') := by
    generalize hHH : ([r0, r1, .row 5 E (max 0 (0 + ins.length)), .row 2 (sp.map spanAV) 0] : List MB) = HH
    have h3 : getRow HH 3 = some (2, sp.map spanAV, 0) := by rw [← hHH]; rfl
    rw [ht, fzL_append, fzL_plain _ _ _ (plain_ins _)]
    simp only [fzL, fzA_agg, fzA_int, hsp 4 HH h3, fzL_plain _ _ _ (plain_ins _)]
    refine ⟨mark HH 3 (0 + sp.length), ?_⟩
    rw [List.map_set, List.set_eq_take_append_cons_drop, if_pos (by simpa using hi), List.map_take, List.map_drop]
  obtain ⟨H', hrow⟩ := hrow
  simp only [fz, fzA_agg, fzL]
  rw [fzA_ms (n := 5) (k := 5) (z := 0) (els := E) (ys := (ins.set i ⟨op, px, py, pn, sp⟩).map insAV) (H' := H') rfl hl (by simp) (by
    rw [List.drop_zero, List.take_of_length_le (by rw [hl]; exact Nat.le_refl _)]; exact hrow)]
  exact ⟨_, rfl⟩
theorem all_span2 (l : List (Int × Int)) : ((l.map spanAV).all fun y => decide (y.cells.length = 2) && y.cells.all AV.ok) = true := by
  simp only [List.all_eq_true, List.mem_map, Bool.and_eq_true, decide_eq_true_eq]
  rintro _ ⟨i, _, rfl⟩
  exact ⟨rfl, fun x hx => by
    simp only [AV.cells, List.mem_cons, List.not_mem_nil, or_false] at hx
    rcases hx with rfl | rfl <;> rfl⟩
theorem in64_get (l : List Int) (j : Nat) (h : ∀ x ∈ l, In64 x) : In64 (l.getD j 0) := by
  rw [List.getD_eq_getElem?_getD]
  cases hj : l[j]? with
  | none => exact ⟨by simp, by simp⟩
  | some y => exact h y (List.mem_of_getElem? hj)

theorem f28 (g : Prg) (a b : Nat) (ha : a ≤ 1000000) (hb : b ≤ 1000000) (hg : PrgN g a b) (pos how by_ : Int) (h1 : In64 pos) (h2 : In64 how) (h3 : In64 by_) :
    ∃ r, (∃ g', PrgN g' a (b + 1) ∧ r = prgAV g') ∧ ∀ H, call Try.prog pol1 28 [.agg [.sl false (g.ins.map insAV), I g.caps, .bool g.runes], I pos, I how, I by_] H = some (r, H) := by
  obtain ⟨ins, caps, runes⟩ := g
  obtain ⟨hl, hs, hc⟩ := hg
  simp only [] at hl hs hc
  refine call_runA Try.func28 rfl rfl rfl rfl rfl rfl (fun _ => rfl) (by simp [AV.plain, AV.plainL, plain_ints, plain_span, plain_ins, plain_prg]) ?_ ?_
  · rintro _ ⟨g, _, rfl⟩; exact plain_prg g
  cases ins with
  | nil =>
    simp +contextual (disch := omega) only [Try.f28, dd28, go_sem, ↓reduceIte, List.reduceReplicate, Nat.reduceAdd, Nat.reduceSub, reduceCtorEq, Nat.reduceLeDiff, Nat.reduceMul, Nat.reduceLT, Nat.reduceEqDiff, Int.reduceBNe, Int.reduceBEq, Int.reduceEq, Int.reduceLT, Int.reduceLE, Int.reduceGT, Int.reduceGE, mu28, Nat.reduceBEq, ↓wrap_up, ↓wrap_down, ↓wrap_pred, ↓wrap_sub_nat, Int.reduceToNat]
    exact ⟨_, ⟨⟨[], caps, runes⟩, ⟨by simp, by simp, hc⟩, rfl⟩, _, rfl⟩
  | cons x xs =>
    simp only [List.length_cons] at hl
    have hf := fun (n m : Int) (hn : In64 n) (hm : m ≠ 0) => f12 n m hn hm
    have hi := around_lt (n := pos) (m := ((xs.length + 1 : Nat) : Int)) (by omega)
    have hfi := f12 pos ((xs.length + 1 : Nat) : Int) h1 (by omega)
    obtain ⟨i, hie, hil⟩ : ∃ i : Nat, aroundI pos ((xs.length + 1 : Nat) : Int) = i ∧ i < xs.length + 1 := ⟨(aroundI pos ((xs.length + 1 : Nat) : Int)).toNat, by omega, by omega⟩
    rw [hie] at hfi
    obtain ⟨p, hp⟩ : ∃ p, (x :: xs)[i]? = some p := ⟨_, List.getElem?_eq_getElem hil⟩
    have hp' : (insAV x :: List.map insAV xs)[i]? = some (insAV p) := by
      have : ((x :: xs).map insAV)[i]? = some (insAV p) := by rw [List.getElem?_map, hp]; rfl
      exact this
    have h5 := around_lt (n := by_) (m := 5) (by omega)
    have h4 := around_lt (n := by_) (m := 4) (by omega)
    obtain ⟨j5, e5, l5⟩ : ∃ j : Nat, aroundI by_ 5 = j ∧ j < 5 := ⟨(aroundI by_ 5).toNat, by omega, by omega⟩
    obtain ⟨j4, e4, l4⟩ : ∃ j : Nat, aroundI by_ 4 = j ∧ j < 4 := ⟨(aroundI by_ 4).toNat, by omega, by omega⟩
    have f5 := f12 by_ 5 h3 (by omega)
    have f4 := f12 by_ 4 h3 (by omega)
    rw [e5] at f5
    rw [e4] at f4
    have hh := around_lt (n := how) (m := 8) (by omega)
    have fh := f12 how 8 h2 (by omega)
    generalize aroundI how 8 = k at *
    have hst : ∀ q : Ins, (insAV x :: List.map insAV xs).set i (insAV q) = ((x :: xs).set i q).map insAV := fun q => by
      rw [List.map_set]; rfl
    have hal := all_ins5 (x :: xs)
    have hroom : roomFor (xs.length + 1) 56 = true := by simp [roomFor]; omega
    have hps : p.set.length ≤ b := hs p (List.mem_of_getElem? hp)
    have hnew : ∀ q : Ins, q.set.length ≤ b + 1 → ∀ c, In64 c → ∀ r, PrgN ⟨(x :: xs).set i q, c, r⟩ a (b + 1) := fun q hq c hc r => ⟨by simp; omega, fun y hy => by
      rcases List.mem_or_eq_of_mem_set hy with h | h
      · have := hs y h; omega
      · rw [h]; exact hq, hc⟩
    rcases (by omega : k = 0 ∨ k = 1 ∨ k = 2 ∨ k = 3 ∨ k = 4 ∨ k = 5 ∨ k = 6 ∨ k = 7) with rfl | rfl | rfl | rfl | rfl | rfl | rfl | rfl
    · simp +contextual (disch := omega) only [Try.f28, dd28, go_sem, ↓reduceIte, List.reduceReplicate, Nat.reduceAdd, Nat.reduceSub, reduceCtorEq, Nat.reduceLeDiff, Nat.reduceMul, Nat.reduceLT, Nat.reduceEqDiff, Int.reduceBNe, Int.reduceBEq, Int.reduceEq, Int.reduceLT, Int.reduceLE, Int.reduceGT, Int.reduceGE, mu28, Nat.reduceBEq, ↓wrap_up, ↓wrap_down, ↓wrap_pred, ↓wrap_sub_nat, Int.reduceToNat, hfi, fh, hp', f5, get5, l5, f4, get4, l4]
      refine ⟨hal, hroom, ?_⟩
      exact ⟨_, ⟨⟨(x :: xs).set i ⟨[by_, -1, 6, 1, 4].getD j5 0, p.x, p.y, p.n, p.set⟩, caps, runes⟩, hnew ⟨[by_, -1, 6, 1, 4].getD j5 0, p.x, p.y, p.n, p.set⟩ (by simp only []; omega) _ hc _, rfl⟩, fz_all (congrArg (fun z => some (5, z, 0)) (hst ⟨[by_, -1, 6, 1, 4].getD j5 0, p.x, p.y, p.n, p.set⟩)) (by simp)⟩
    · simp +contextual (disch := omega) only [Try.f28, dd28, go_sem, ↓reduceIte, List.reduceReplicate, Nat.reduceAdd, Nat.reduceSub, reduceCtorEq, Nat.reduceLeDiff, Nat.reduceMul, Nat.reduceLT, Nat.reduceEqDiff, Int.reduceBNe, Int.reduceBEq, Int.reduceEq, Int.reduceLT, Int.reduceLE, Int.reduceGT, Int.reduceGE, mu28, Nat.reduceBEq, ↓wrap_up, ↓wrap_down, ↓wrap_pred, ↓wrap_sub_nat, Int.reduceToNat, hfi, fh, hp', f5, get5, l5, f4, get4, l4]
      refine ⟨hal, hroom, ?_⟩
      exact ⟨_, ⟨⟨(x :: xs).set i ⟨p.op, [by_, -1, ((xs.length + 1 : Nat) : Int), (xs.length : Int)].getD j4 0, p.y, p.n, p.set⟩, caps, runes⟩, hnew ⟨p.op, [by_, -1, ((xs.length + 1 : Nat) : Int), (xs.length : Int)].getD j4 0, p.y, p.n, p.set⟩ (by simp only []; omega) _ hc _, rfl⟩, fz_all (congrArg (fun z => some (5, z, 0)) (hst ⟨p.op, [by_, -1, ((xs.length + 1 : Nat) : Int), (xs.length : Int)].getD j4 0, p.y, p.n, p.set⟩)) (by simp)⟩
    · simp +contextual (disch := omega) only [Try.f28, dd28, go_sem, ↓reduceIte, List.reduceReplicate, Nat.reduceAdd, Nat.reduceSub, reduceCtorEq, Nat.reduceLeDiff, Nat.reduceMul, Nat.reduceLT, Nat.reduceEqDiff, Int.reduceBNe, Int.reduceBEq, Int.reduceEq, Int.reduceLT, Int.reduceLE, Int.reduceGT, Int.reduceGE, mu28, Nat.reduceBEq, ↓wrap_up, ↓wrap_down, ↓wrap_pred, ↓wrap_sub_nat, Int.reduceToNat, hfi, fh, hp', f5, get5, l5, f4, get4, l4]
      refine ⟨hal, hroom, ?_⟩
      exact ⟨_, ⟨⟨(x :: xs).set i ⟨p.op, p.x, [by_, -1, ((xs.length + 1 : Nat) : Int), 0].getD j4 0, p.n, p.set⟩, caps, runes⟩, hnew ⟨p.op, p.x, [by_, -1, ((xs.length + 1 : Nat) : Int), 0].getD j4 0, p.n, p.set⟩ (by simp only []; omega) _ hc _, rfl⟩, fz_all (congrArg (fun z => some (5, z, 0)) (hst ⟨p.op, p.x, [by_, -1, ((xs.length + 1 : Nat) : Int), 0].getD j4 0, p.n, p.set⟩)) (by simp)⟩
    · simp +contextual (disch := omega) only [Try.f28, dd28, go_sem, ↓reduceIte, List.reduceReplicate, Nat.reduceAdd, Nat.reduceSub, reduceCtorEq, Nat.reduceLeDiff, Nat.reduceMul, Nat.reduceLT, Nat.reduceEqDiff, Int.reduceBNe, Int.reduceBEq, Int.reduceEq, Int.reduceLT, Int.reduceLE, Int.reduceGT, Int.reduceGE, mu28, Nat.reduceBEq, ↓wrap_up, ↓wrap_down, ↓wrap_pred, ↓wrap_sub_nat, Int.reduceToNat, hfi, fh, hp', f5, get5, l5, f4, get4, l4]
      refine ⟨hal, hroom, by unfold dOk; kernel_rfl, by kernel_rfl, ?_⟩
      exact ⟨_, ⟨⟨(x :: xs).set i ⟨p.op, p.x, p.y, [by_, -1, 5, 6, IntKind.i64.wrap (2 * caps)].getD j5 0, p.set⟩, caps, runes⟩, hnew ⟨p.op, p.x, p.y, [by_, -1, 5, 6, IntKind.i64.wrap (2 * caps)].getD j5 0, p.set⟩ (by simp only []; omega) _ hc _, rfl⟩, fz_all (congrArg (fun z => some (5, z, 0)) (hst ⟨p.op, p.x, p.y, [by_, -1, 5, 6, IntKind.i64.wrap (2 * caps)].getD j5 0, p.set⟩)) (by simp)⟩
    · obtain ⟨op, px, py, pn, set⟩ := p
      simp only [] at hps
      cases set with
      | nil =>
        simp +contextual (disch := omega) only [Try.f28, dd28, go_sem, ↓reduceIte, List.reduceReplicate, Nat.reduceAdd, Nat.reduceSub, reduceCtorEq, Nat.reduceLeDiff, Nat.reduceMul, Nat.reduceLT, Nat.reduceEqDiff, Int.reduceBNe, Int.reduceBEq, Int.reduceEq, Int.reduceLT, Int.reduceLE, Int.reduceGT, Int.reduceGE, mu28, Nat.reduceBEq, ↓wrap_up, ↓wrap_down, ↓wrap_pred, ↓wrap_sub_nat, Int.reduceToNat, hfi, fh, hp', f5, get5, l5, f4, get4, l4]
        refine ⟨hal, hroom, rfl, ?_⟩
        exact ⟨_, ⟨⟨(x :: xs).set i ⟨op, px, py, pn, [(by_, [by_, 255, 256, 1114111, 1114112].getD j5 0)]⟩, caps, runes⟩, hnew _ (by simp) _ hc _, rfl⟩, fz_set (ins := x :: xs) (sp := [(by_, _)]) hil rfl rfl⟩
      | cons y ys =>
        simp +contextual (disch := omega) only [Try.f28, dd28, go_sem, ↓reduceIte, List.reduceReplicate, Nat.reduceAdd, Nat.reduceSub, reduceCtorEq, Nat.reduceLeDiff, Nat.reduceMul, Nat.reduceLT, Nat.reduceEqDiff, Int.reduceBNe, Int.reduceBEq, Int.reduceEq, Int.reduceLT, Int.reduceLE, Int.reduceGT, Int.reduceGE, mu28, Nat.reduceBEq, ↓wrap_up, ↓wrap_down, ↓wrap_pred, ↓wrap_sub_nat, Int.reduceToNat, hfi, fh, hp', f5, get5, l5, f4, get4, l4]
        have e1 : spanAV y :: (List.take ys.length (List.map spanAV ys) ++ [AV.agg [I by_, I ([by_, 255, 256, 1114111, 1114112].getD j5 0)]]) =
          (y :: (ys ++ [(by_, [by_, 255, 256, 1114111, 1114112].getD j5 0)])).map spanAV := by
          rw [List.take_of_length_le (by simp)]; simp
        rw [e1]
        simp only [List.length_cons] at hps
        refine ⟨hal, hroom, all_span2 (y :: ys), by simp [roomFor]; omega, by simp [roomFor]; omega, ?_⟩
        exact ⟨_, ⟨⟨(x :: xs).set i ⟨op, px, py, pn, y :: (ys ++ [(by_, [by_, 255, 256, 1114111, 1114112].getD j5 0)])⟩, caps, runes⟩, hnew _ (by simp; omega) _ hc _, rfl⟩, fz_set (ins := x :: xs) (sp := y :: (ys ++ [(by_, _)])) hil rfl (by simp)⟩
    · simp +contextual (disch := omega) only [Try.f28, dd28, go_sem, ↓reduceIte, List.reduceReplicate, Nat.reduceAdd, Nat.reduceSub, reduceCtorEq, Nat.reduceLeDiff, Nat.reduceMul, Nat.reduceLT, Nat.reduceEqDiff, Int.reduceBNe, Int.reduceBEq, Int.reduceEq, Int.reduceLT, Int.reduceLE, Int.reduceGT, Int.reduceGE, mu28, Nat.reduceBEq, ↓wrap_up, ↓wrap_down, ↓wrap_pred, ↓wrap_sub_nat, Int.reduceToNat, hfi, fh, hp', f5, get5, l5, f4, get4, l4]
      refine ⟨hal, hroom, ?_⟩
      exact ⟨_, ⟨⟨x :: xs, [by_, -1, 9, 10].getD j4 0, runes⟩, ⟨by simp; omega, fun y hy => by have := hs y hy; omega, in64_get _ _ (by intro z hz; simp at hz; rcases hz with rfl | rfl | rfl | rfl <;> first | exact h3 | exact ⟨by omega, by omega⟩)⟩, rfl⟩, fz_all rfl (by simp)⟩
    · simp +contextual (disch := omega) only [Try.f28, dd28, go_sem, ↓reduceIte, List.reduceReplicate, Nat.reduceAdd, Nat.reduceSub, reduceCtorEq, Nat.reduceLeDiff, Nat.reduceMul, Nat.reduceLT, Nat.reduceEqDiff, Int.reduceBNe, Int.reduceBEq, Int.reduceEq, Int.reduceLT, Int.reduceLE, Int.reduceGT, Int.reduceGE, mu28, Nat.reduceBEq, ↓wrap_up, ↓wrap_down, ↓wrap_pred, ↓wrap_sub_nat, Int.reduceToNat, hfi, fh, hp', f5, get5, l5, f4, get4, l4]
      refine ⟨hal, hroom, ?_⟩
      exact ⟨_, ⟨⟨(x :: xs).take (xs.length - 0), caps, runes⟩, ⟨by simp; omega, fun y hy => by have := hs y (List.mem_of_mem_take hy); omega, hc⟩, rfl⟩, fz_ms (ins := x :: xs) rfl (by simp) (by omega)⟩
    · simp +contextual (disch := omega) only [Try.f28, dd28, go_sem, ↓reduceIte, List.reduceReplicate, Nat.reduceAdd, Nat.reduceSub, reduceCtorEq, Nat.reduceLeDiff, Nat.reduceMul, Nat.reduceLT, Nat.reduceEqDiff, Int.reduceBNe, Int.reduceBEq, Int.reduceEq, Int.reduceLT, Int.reduceLE, Int.reduceGT, Int.reduceGE, mu28, Nat.reduceBEq, ↓wrap_up, ↓wrap_down, ↓wrap_pred, ↓wrap_sub_nat, Int.reduceToNat, hfi, fh, hp', f5, get5, l5, f4, get4, l4]
      refine ⟨hal, hroom, ?_⟩
      exact ⟨_, ⟨⟨x :: xs, caps, !runes⟩, ⟨by simp; omega, fun y hy => by have := hs y hy; omega, hc⟩, rfl⟩, fz_all rfl (by simp)⟩
end
end Go.Ev
