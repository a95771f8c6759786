/- Functions of the program, each with what it computes; no further conditions. -/
import Derived.Test.YtpbobopcmhpbbaaS05
import Derived.Test.YtpbobopcmhpbbaaS14
import Derived.Test.YtpbobopcmhpbbaaS17
set_option linter.unusedVariables false
set_option linter.unusedSimpArgs false
namespace Go.Ev
attribute [local go_sem] eq_self bindW_some bindW_map bindW_ite bindW_iteN W_seq W_region W_draw W_cond W_condK W_ret W_skip W_exit W_scope W_label W_block blockK_norm blockK_ret blockK_exit WO_nil WO_cons WO_guard WD_nil WD_cons WD_guard guardV guardW_boolT guardW_boolF guardW_tup fpL_some fpL_none footprint thenK_norm thenK_ret thenK_exit put_some put_none ev_tmp ev_con ev_func ofK_int ofK_bool ofK_str ofK_nil evOp evBuiltin evCall evLen evAppend getElem_16 getElem_4 List.length_cons List.length_nil List.cons_append List.nil_append List.append_nil if_false if_true Bool.false_eq_true Bool.true_eq_false Option.map_some Option.map_none List.map_cons List.map_nil evBinOp evBin evUn asB_bool splitB_decide splitB_true splitB_false splitB_beq splitB_bne splitB_not endK_ret endK_norm List.getElem?_cons_zero List.getElem?_cons_succ evResults evResult packRes retK_norm retK_ret cellsAt mkVal evFieldAddr evField evIndexAddr evPart evStore evBuild evBuildSlice fillC fillE evSlice evMakeSlice evConvert getRow AV.cells List.head?_cons List.drop_zero List.drop_succ_cons List.take_zero List.take_succ_cons List.drop_nil List.take_nil List.all_cons List.all_nil AV.ok Bool.and_self Bool.and_true Bool.true_and and_self and_true true_and Nat.zero_add Nat.add_zero setCells splice pairsOk pairsX altW_none altW_some cfg_al WI_nil WI_cons FP.apart heapEq_refl sameAt_refl Bool.or_true Bool.true_or Bool.or_false srcElems elemsOf mutDst roundK_norm roundK_exit roundK_ret List.length_map List.getElem?_map Int.toNat_natCast decide_true decide_false Bool.not_true Bool.not_false List.set set_0 set_1 set_2 set_3 set_4 look_hit look lookD_hit lookD_cons lookD_nil ins_hit ins upd_hit upd rem1_hit rem1 dropT dropSt_eq initT cfg_dd cfg_bd cfg_ra actL_nil actL_cons act1 updT_hit updT frzB retE_norm retE_ret bndO bnd evEq eqCells not_false_eq_true not_true_eq_false toList_some Array.size_empty List.length_append List.map_append tySzE List.head?_drop Nat.mul_one sameAt_zero sameAt_two sameAt_three sameAt_four sameAt_five endE_norm endE_ret head_take1
open Go.Proofs Go.RowKit Go.IntWalk
set_option maxRecDepth 100000
set_option linter.unusedSimpArgs false
set_option linter.unusedVariables false
set_option maxHeartbeats 8000000

theorem SetOk.next {s O : List (Int × Int)} (h : SetOk s O) {k : Nat} {p q : Int × Int} (hp : O[k]? = some p) (hq : O[k + 1]? = some q) : p.2 + 2 ≤ q.1 := by
  obtain ⟨h1, e1⟩ := List.getElem?_eq_some_iff.1 hp
  obtain ⟨h2, e2⟩ := List.getElem?_eq_some_iff.1 hq
  have := List.pairwise_iff_getElem.1 h.sep k (k + 1) h1 h2 (by omega)
  rwa [e1, e2] at this
theorem SetOk.badS {s O : List (Int × Int)} (h : SetOk s O) (k : Nat) : badS O 1114111 k = false := by
  unfold Go.Ev.badS
  cases hp : O[k]? with
  | none => rfl
  | some p =>
    have hg := h.good p (List.mem_of_getElem? hp)
    unfold goodS at hg
    cases k with
    | zero => simp; omega
    | succ k =>
      cases hq : O[k]? with
      | none => simp [hq]; omega
      | some q =>
        have := h.next hq hp
        simp [hq]; omega
theorem SetOk.badAt {s O : List (Int × Int)} (h : SetOk s O) (k : Nat) : badAt O k = false := by
  unfold Go.Ev.badAt
  cases hp : O[k]? with
  | none => rfl
  | some p =>
    have hg := h.good p (List.mem_of_getElem? hp)
    unfold goodS at hg
    cases k with
    | zero => simp; omega
    | succ k =>
      cases hq : O[k]? with
      | none => simp [hq]; omega
      | some q =>
        have := h.next hq hp
        simp [hq]; omega
abbrev setP (S : List (Int × Int)) : Re := .mk 1 S [] 0 0 0 0 false
abbrev gSet (S : List (Int × Int)) : Prg := ⟨[⟨1, 0, 0, 0, S⟩, ⟨0, 0, 0, 0, []⟩], 0, true⟩
theorem comp_set {s S : List (Int × Int)} (h : SetOk s S) (hl : S.length ≤ 64) : compP ⟨setP S, 0, true⟩ = (gSet S, 0) := by
  have h1 : spansG S 1114111 = true := spansG_good hl (fun k _ => h.badS k)
  have h2 : validP ⟨setP S, 0, true⟩ = 0 := by
    unfold validP
    simp [Re.size, Re.sizeL, Re.depth, Re.depthL, wholeG, wholeL, formedG, h1, kidsG, topI]
  unfold compP
  rw [if_pos h2]
  simp [compG, compL, lenG, codeG]
theorem valid_set {s S : List (Int × Int)} (h : SetOk s S) (hl : S.length ≤ 64) : validG (gSet S) = 0 := by
  have h1 : refSpans S = 0 := by rw [refSpans_good (fun k _ => h.badAt k), if_neg (by omega)]
  have h2 : lastOk S 1114111 = true := by
    unfold lastOk
    cases hp : S[S.length - 1]? with
    | none => rfl
    | some p =>
      have hg := h.good p (List.mem_of_getElem? hp)
      unfold goodS at hg
      simp; omega
  unfold validG
  simp [okIns, lastGood, h1, h2]
theorem res_set {s S : List (Int × Int)} (h : SetOk s S) (hl : S.length ≤ 64) (x : Int) : ∃ l, resP (gSet S) [x] 0 (-1) 9 = (l, 0) ∧ (hasSpan S x = true → l.length = 1) ∧ (hasSpan S x = false → l = []) := by
  have hv := valid_set h hl
  have hc : checkG (gSet S) [x].length 0 (-1) 9 = 0 := by
    unfold checkG
    rw [if_neg (by simp [hv])]
    simp
  unfold resP
  rw [if_neg (fun h => h hc)]
  cases hs : hasSpan S x with
  | true =>
    refine ⟨[matOf 0 0 ⟨1, 1, []⟩], ?_, fun _ => rfl, fun h => (by cases h)⟩
    simp [runW, stepW, progOf, hs]
  | false =>
    refine ⟨[], ?_, fun h => (by cases h), fun _ => rfl⟩
    simp [runW, stepW, progOf, hs]

theorem tdiv64 {x : Int} (h : In64 x) : In64 (x.tdiv 7) := by
  unfold In64 at *
  rcases Int.le_total 0 x with h0 | h0
  · rw [Int.tdiv_eq_ediv_of_nonneg h0]; omega
  · obtain ⟨y, rfl⟩ : ∃ y, x = -y := ⟨-x, by omega⟩
    rw [Int.neg_tdiv, Int.tdiv_eq_ediv_of_nonneg (by omega)]; omega
/-- The law's spans. -/
def spI (x : Int) : Int × Int := (aroundI x 1114000, aroundI x 1114000 + aroundI (x.tdiv 7) 90)
theorem spI_good (x : Int) : goodS (spI x) := by
  have h1 := around_lt (n := x) (m := 1114000) (by omega)
  have h2 := around_lt (n := x.tdiv 7) (m := 90) (by omega)
  simp only [goodS, spI]
  omega
/-- The law's symbols. -/
def symS (S : List (Int × Int)) : List Int := S.flatMap fun p => [p.1, p.2 + 1, p.2]
theorem symS_take {S : List (Int × Int)} {i : Nat} {p : Int × Int} (h : S[i]? = some p) : symS (S.take (i + 1)) = symS (S.take i) ++ [p.1, p.2 + 1, p.2] := by
  rw [List.take_add_one, h]; simp [symS]
theorem symS_len : ∀ (S : List (Int × Int)), (symS S).length = 3 * S.length
  | [] => rfl
  | p :: S => by
    have := symS_len S
    simp only [symS, List.flatMap_cons, List.length_append, List.length_cons, List.length_nil] at this ⊢
    omega

theorem f42m (T : List (Int × Int)) (n : Nat) (hn : T.length = n) {r : AV} (h : ∀ H, call Try.prog pol1 42 [.sl false (T.map spanAV)] H = some (r, H)) :
    call Try.prog pol1 42 [.ms 0 2 n 0 n] [.row 2 (T.map spanAV) 0] = some (r, [.row 2 (T.map spanAV) n]) := by
  rw [call_frz (l := [.sl false (T.map spanAV)]) (H1 := [.row 2 (T.map spanAV) n]) rfl ?_ (by simp [AV.plainL, AV.plain, plain_span])]
  · exact h _
  · have hby : pol1.byref 42 0 = false := rfl
    have hz := fz_row (id := 0) (k := 2) (tot := n) (z := 0) (H := [.row 2 (T.map spanAV) 0]) (els := T.map spanAV) rfl (by rw [List.length_map]; exact hn) (plain_span T)
    simp only [frzArgs, hby, Bool.false_eq_true, if_false, hz]
    simp [mark, getRow]
theorem f10 (l : List Int) (sym : Int) (hl : ∀ x ∈ l, In64 x) (hs : In64 sym) (H : List MB) :
    call Try.prog pol1 10 [.sl false (l.map I), I sym] H = some (.bool true, H) := by
  refine call_run Try.func10 rfl rfl rfl rfl rfl rfl (fun _ => rfl) (by simp [AV.plain, AV.plainL, plain_ints]) rfl ?_ H
  have h12 := f12
  generalize hT : (l.take 6).map spI = T
  have hTl : T.length ≤ 6 := by rw [← hT]; simp; omega
  have hTg : ∀ p ∈ T, goodS p := fun p hp => by
    rw [← hT] at hp
    obtain ⟨x, _, rfl⟩ := List.mem_map.1 hp
    exact spI_good x
  simp +contextual (disch := omega) only [Try.f10, dd10, ty0, ty3, ty4, ty22, ty23, ty26, ty28, ty35, ty36, ty37, ty53, ty54, ty86, ty87, go_sem, ↓reduceIte, List.reduceReplicate, Nat.reduceAdd, Nat.reduceSub, reduceCtorEq, Nat.reduceLeDiff, Nat.reduceMul, Nat.reduceLT, Nat.reduceEqDiff, Int.reduceBNe, Int.reduceBEq, Int.reduceEq, Int.reduceLT, Int.reduceLE, Int.reduceGT, Int.reduceGE, mu10, List.contains_nil, List.contains_cons, Nat.reduceBEq, Bool.or_self, dlt_t, dlt_f, dle_t, dle_f, dgt_t, dgt_f, dge_t, dge_f, beq_t, beq_f, bne_t, bne_f, lt_T, le_T, nle_T, nle_F, ↓wrap_up, ↓wrap_down, ↓wrap_pred, ↓wrap_sub_nat, i64_in, i64_quo, rem_in, Int.reduceToNat, room_ok]
  refine W_count (M := (mskOf (pol1.mask 10) (pol1.gc 10) (pol1.acts 10) 0 3)) rfl (min l.length 6) (fun i => (⟨120, [(6, I i), (5, .ms 0 2 i 0 i), (1, I sym), (0, .sl false (l.map I))], [.row 2 ((T.take i).map spanAV) 0]⟩ : St)) (fun _ => True) ?_ ?_ trivial _ ?_
  · intro i hi _
    obtain ⟨x, hx⟩ : ∃ x, l[i]? = some x := ⟨_, List.getElem?_eq_getElem (by omega)⟩
    have hx64 := hl x (List.mem_of_getElem? hx)
    have hTi : T[i]? = some (spI x) := by rw [← hT, List.getElem?_map, List.getElem?_take, if_pos (by omega), hx]; rfl
    have hlen : (T.take i).length = i := by rw [List.length_take, ← hT]; simp; omega
    have e1 := h12 x 1114000 hx64 (by omega)
    have h7 : In64 (x.tdiv 7) := tdiv64 hx64
    have e2 := h12 (x.tdiv 7) 90 h7 (by omega)
    have hw : IntKind.i64.wrap (x.tdiv 7) = x.tdiv 7 := i64_in _ h7
    have b1 := around_lt (n := x) (m := 1114000) (by omega)
    have b2 := around_lt (n := x.tdiv 7) (m := 90) (by omega)
    have hw2 : IntKind.i64.wrap (aroundI x 1114000 + aroundI (x.tdiv 7) 90) = aroundI x 1114000 + aroundI (x.tdiv 7) 90 := i64_in _ ⟨by omega, by omega⟩
    have hi6 : i < 6 := by omega
    simp +contextual (disch := omega) only [Try.f10, dd10, ty0, ty3, ty4, ty22, ty23, ty26, ty28, ty35, ty36, ty37, ty53, ty54, ty86, ty87, go_sem, ↓reduceIte, List.reduceReplicate, Nat.reduceAdd, Nat.reduceSub, reduceCtorEq, Nat.reduceLeDiff, Nat.reduceMul, Nat.reduceLT, Nat.reduceEqDiff, Int.reduceBNe, Int.reduceBEq, Int.reduceEq, Int.reduceLT, Int.reduceLE, Int.reduceGT, Int.reduceGE, mu10, List.contains_nil, List.contains_cons, Nat.reduceBEq, Bool.or_self, dlt_t, dlt_f, dle_t, dle_f, dgt_t, dgt_f, dge_t, dge_f, beq_t, beq_f, bne_t, bne_f, lt_T, le_T, nle_T, nle_F, ↓wrap_up, ↓wrap_down, ↓wrap_pred, ↓wrap_sub_nat, i64_in, i64_quo, rem_in, Int.reduceToNat, room_ok, hx, e1, e2, hw, hw2, hlen]
    have ht1 : List.take i (List.map spanAV (List.take i T)) = List.map spanAV (List.take i T) := List.take_of_length_le (by rw [List.length_map]; omega)
    rw [ht1, List.take_add_one, hTi]
    simp only [Option.toList_some, List.map_append, List.map_cons, List.map_nil]
    exact (by first | rfl | (refine prep_cut rfl (by rfl) (by rfl) (by rfl) ?_ ?_ <;> simp [AV.underL, AV.under, MB.under, underL_plain, under_plain, plain_ints, plain_span, plain_ins, plain_prg, -List.map_take, underL_append]))
  · intro _
    have hm : min l.length 6 = T.length := by rw [← hT]; simp; omega
    rw [hm, List.take_of_length_le (Nat.le_refl _)]
    obtain ⟨L, hL, h42⟩ := f42 T hTl hTg
    have hS := addAll_ok hL.2 (fun p hp => hTg p (hL.1.mem_iff.1 hp))
    have hSl := hS.len
    rw [hL.1.length_eq] at hSl
    generalize hSS : addAll L = S at *
    have h42 := f42m T _ rfl h42
    have h14 := f14 ⟨setP S, 0, true⟩ (by simp [Re.wt, Re.wtL]; omega)
    rw [comp_set hS (by omega)] at h14
    have h14 : ∀ H, call Try.prog pol1 14 [.agg [I 1, .sl false (S.map spanAV), .sl true [], I 0, I 0, I 0, I 0, .bool false, I 0, .bool true]] H = _ := fun H =>
      (call_frz (l := [patAV ⟨setP S, 0, true⟩]) (H1 := H) rfl (by
        have h0 : pol1.byref 14 0 = false := rfl
        have h2 : ∀ j H, fzL j (S.map spanAV) H = some (S.map spanAV, H) := fun j H => fzL_plain _ _ H (plain_span S)
        simp only [frzArgs, h0, Bool.false_eq_true, if_false, fz, fzA, fzL, h2]
        rfl) (by simp [AV.plainL, AV.plain]; exact plain_patC _)).trans (h14 H)
    have hsz := around_lt (n := sym) (m := 1114112) (by omega)
    have e12 := h12 sym 1114112 hs (by omega)
    generalize aroundI sym 1114112 = sy at *
    have hfz : fz (.ms 0 2 T.length 0 T.length) [.row 2 (T.map spanAV) T.length] = some (.sl false (T.map spanAV), [.row 2 (T.map spanAV) T.length]) := by
      have hz := fz_row (id := 0) (k := 2) (tot := T.length) (z := T.length) (H := [.row 2 (T.map spanAV) T.length]) (els := T.map spanAV) rfl (by rw [List.length_map]) (plain_span T)
      rw [hz]
      simp [mark, getRow]
    have h3 : T.length < 6 ∨ (l.length ≤ T.length) ∨ (T.length < l.length ∧ ¬ T.length < 6) := by omega
    rcases h3 with h6 | h6 | h6
    all_goals
      simp +contextual (disch := omega) only [Try.f10, dd10, ty0, ty3, ty4, ty22, ty23, ty26, ty28, ty35, ty36, ty37, ty53, ty54, ty86, ty87, go_sem, ↓reduceIte, List.reduceReplicate, Nat.reduceAdd, Nat.reduceSub, reduceCtorEq, Nat.reduceLeDiff, Nat.reduceMul, Nat.reduceLT, Nat.reduceEqDiff, Int.reduceBNe, Int.reduceBEq, Int.reduceEq, Int.reduceLT, Int.reduceLE, Int.reduceGT, Int.reduceGE, mu10, List.contains_nil, List.contains_cons, Nat.reduceBEq, Bool.or_self, dlt_t, dlt_f, dle_t, dle_f, dgt_t, dgt_f, dge_t, dge_f, beq_t, beq_f, bne_t, bne_f, lt_T, le_T, nle_T, nle_F, ↓wrap_up, ↓wrap_down, ↓wrap_pred, ↓wrap_sub_nat, i64_in, i64_quo, rem_in, Int.reduceToNat, room_ok, h42, h14, e12, hfz]
      refine W_count (M := (mskOf (pol1.mask 10) (pol1.gc 10) (pol1.acts 10) 0 15)) rfl T.length (fun i => (⟨120, [(13, I i), (12, .ms 2 1 (3 * i + 1) 0 (3 * i + 1)), (10, .rf 1 1 0 0), (8, .sl false (S.map spanAV)), (5, .sl false (T.map spanAV))], [.row 2 (T.map spanAV) T.length, .row 3 [prgAV (gSet S)] 0, .row 1 ((sy :: symS (T.take i)).map I) 0]⟩ : St)) (fun _ => True) ?_ ?_ trivial _ ?_
      · intro i hi _
        obtain ⟨p, hp⟩ : ∃ p, T[i]? = some p := ⟨_, List.getElem?_eq_getElem hi⟩
        have hgp := hTg p (List.mem_of_getElem? hp)
        unfold goodS at hgp
        have hlen := symS_len (T.take i)
        rw [List.length_take, Nat.min_eq_left (by omega)] at hlen
        have hw : IntKind.i64.wrap (p.2 + 1) = p.2 + 1 := i64_in _ ⟨by omega, by omega⟩
        rw [symS_take hp]
        simp +contextual (disch := omega) only [Try.f10, dd10, ty0, ty3, ty4, ty22, ty23, ty26, ty28, ty35, ty36, ty37, ty53, ty54, ty86, ty87, go_sem, ↓reduceIte, List.reduceReplicate, Nat.reduceAdd, Nat.reduceSub, reduceCtorEq, Nat.reduceLeDiff, Nat.reduceMul, Nat.reduceLT, Nat.reduceEqDiff, Int.reduceBNe, Int.reduceBEq, Int.reduceEq, Int.reduceLT, Int.reduceLE, Int.reduceGT, Int.reduceGE, mu10, List.contains_nil, List.contains_cons, Nat.reduceBEq, Bool.or_self, dlt_t, dlt_f, dle_t, dle_f, dgt_t, dgt_f, dge_t, dge_f, beq_t, beq_f, bne_t, bne_f, lt_T, le_T, nle_T, nle_F, ↓wrap_up, ↓wrap_down, ↓wrap_pred, ↓wrap_sub_nat, i64_in, i64_quo, rem_in, Int.reduceToNat, room_ok, hp, hw, hlen, spanAV]
        repeat' (first | intro _ | apply And.intro | (unfold dOk; kernel_rfl) | exact St.beq_refl _ | (show altO _ _ _ _ = true; kernel_rfl) | (show (_ || _) = true; kernel_rfl) | (show (_ && _) = true; kernel_rfl))
        have ht2 : List.take (3 * i) (List.map I (symS (List.take i T))) = List.map I (symS (List.take i T)) := List.take_of_length_le (by rw [List.length_map]; omega)
        rw [ht2, show 3 * (i + 1) + 1 = 3 * i + 1 + 3 by omega]
        exact (by first | rfl | (refine prep_to (n := 3) (m := ⟨some [13, 12, 10, 8, 5], some 3, []⟩) rfl rfl ?_ ?_ ?_ <;> first | rfl | (simp [keepT, AV.underL, AV.under, MB.under, underL_plain, under_plain, underL_append, plain_ints, plain_span, plain_ins, plain_prg, -List.map_take, -List.map_replicate, -List.map_set, plain_prg]; done) | (simp [keepT, AV.underL, AV.under, MB.under, underL_plain, under_plain, underL_append, plain_ints, plain_span, plain_ins, plain_prg, -List.map_take, -List.map_replicate, -List.map_set, plain_prg]; omega)))
      · intro _
        rw [List.take_length]
        have hsl := symS_len T
        have hfz2 : ∀ a b, fz (.ms 2 1 (3 * T.length + 1) 0 (3 * T.length + 1)) [a, b, .row 1 ((sy :: symS T).map I) 0] = some (.sl false ((sy :: symS T).map I), [a, b, .row 1 ((sy :: symS T).map I) (3 * T.length + 1)]) := fun a b => by
          have hz := fz_row (id := 2) (k := 1) (tot := 3 * T.length + 1) (z := 0) (H := [a, b, .row 1 ((sy :: symS T).map I) 0]) (els := (sy :: symS T).map I) rfl (by simp [hsl]) (plain_ints _)
          rw [hz]
          simp [mark, getRow]
        generalize hY : sy :: symS T = Y at *
        have hYl : Y.length = 3 * T.length + 1 := by rw [← hY]; simp [hsl]
        simp +contextual (disch := omega) only [Try.f10, dd10, ty0, ty3, ty4, ty22, ty23, ty26, ty28, ty35, ty36, ty37, ty53, ty54, ty86, ty87, go_sem, ↓reduceIte, List.reduceReplicate, Nat.reduceAdd, Nat.reduceSub, reduceCtorEq, Nat.reduceLeDiff, Nat.reduceMul, Nat.reduceLT, Nat.reduceEqDiff, Int.reduceBNe, Int.reduceBEq, Int.reduceEq, Int.reduceLT, Int.reduceLE, Int.reduceGT, Int.reduceGE, mu10, List.contains_nil, List.contains_cons, Nat.reduceBEq, Bool.or_self, dlt_t, dlt_f, dle_t, dle_f, dgt_t, dgt_f, dge_t, dge_f, beq_t, beq_f, bne_t, bne_f, lt_T, le_T, nle_T, nle_F, ↓wrap_up, ↓wrap_down, ↓wrap_pred, ↓wrap_sub_nat, i64_in, i64_quo, rem_in, Int.reduceToNat, room_ok, hfz2]
        refine W_count (M := (mskOf (pol1.mask 10) (pol1.gc 10) (pol1.acts 10) 0 19)) rfl (3 * T.length + 1) (fun i => (⟨120, [(14, I i), (12, .sl false (Y.map I)), (10, .rf 1 1 0 0), (8, .sl false (S.map spanAV))], [.row 2 (T.map spanAV) T.length, .row 3 [prgAV (gSet S)] 0, .row 1 (Y.map I) (3 * T.length + 1)]⟩ : St)) (fun _ => True) ?_ ?_ trivial _ ?_
        · intro i hi _
          obtain ⟨x, hx⟩ : ∃ x, Y[i]? = some x := ⟨_, List.getElem?_eq_getElem (by omega)⟩
          have h23 := paths23 (gSet S) ⟨by simp, fun j hj => by simp at hj; rcases hj with rfl | rfl <;> simp <;> omega⟩ [x] (by simp) 0 (-1) 9 (by omega)
          obtain ⟨r, hr, hr1, hr2⟩ := res_set hS (by omega) x
          rw [hr] at h23
          have h43 := f43 S x (by omega)
          have htk : List.drop i (List.take (i + 1) (Y.map I)) = [I x] := by
            rw [List.drop_take, show i + 1 - i = 1 by omega, List.take_one, List.head?_drop, List.getElem?_map, hx]; rfl
          have hal : ((Y.map I).all fun y => decide ((match y with | .agg cs => cs | x => [x]).length = 1)) = true := by simp
          simp only [List.map_cons, List.map_nil] at h23
          cases hh : hasSpan S x with
          | true =>
            have hr1 := hr1 hh
            rw [hh] at h43
            simp +contextual (disch := omega) only [Try.f10, dd10, ty0, ty3, ty4, ty22, ty23, ty26, ty28, ty35, ty36, ty37, ty53, ty54, ty86, ty87, go_sem, ↓reduceIte, List.reduceReplicate, Nat.reduceAdd, Nat.reduceSub, reduceCtorEq, Nat.reduceLeDiff, Nat.reduceMul, Nat.reduceLT, Nat.reduceEqDiff, Int.reduceBNe, Int.reduceBEq, Int.reduceEq, Int.reduceLT, Int.reduceLE, Int.reduceGT, Int.reduceGE, mu10, List.contains_nil, List.contains_cons, Nat.reduceBEq, Bool.or_self, dlt_t, dlt_f, dle_t, dle_f, dgt_t, dgt_f, dge_t, dge_f, beq_t, beq_f, bne_t, bne_f, lt_T, le_T, nle_T, nle_F, ↓wrap_up, ↓wrap_down, ↓wrap_pred, ↓wrap_sub_nat, i64_in, i64_quo, rem_in, Int.reduceToNat, room_ok, hYl, hx, h23, h43, htk, hal, Bool.false_and]
            repeat' (first | intro _ | apply And.intro | (unfold dOk; kernel_rfl) | exact St.beq_refl _ | (show altO _ _ _ _ = true; kernel_rfl) | (show (_ || _) = true; kernel_rfl) | (show (_ && _) = true; kernel_rfl))
            all_goals first | exact hal | exact (by first | rfl | (refine prep_to (n := 3) (m := ⟨some [14, 12, 10, 8], some 3, []⟩) rfl rfl ?_ ?_ ?_ <;> first | rfl | (simp [keepT, AV.underL, AV.under, MB.under, underL_plain, under_plain, underL_append, plain_ints, plain_span, plain_ins, plain_prg, -List.map_take, -List.map_replicate, -List.map_set, plain_prg]; done) | (simp [keepT, AV.underL, AV.under, MB.under, underL_plain, under_plain, underL_append, plain_ints, plain_span, plain_ins, plain_prg, -List.map_take, -List.map_replicate, -List.map_set, plain_prg]; omega))) | contradiction | omega
          | false =>
            have hr2 := hr2 hh
            subst hr2
            rw [hh] at h43
            simp +contextual (disch := omega) only [Try.f10, dd10, ty0, ty3, ty4, ty22, ty23, ty26, ty28, ty35, ty36, ty37, ty53, ty54, ty86, ty87, go_sem, ↓reduceIte, List.reduceReplicate, Nat.reduceAdd, Nat.reduceSub, reduceCtorEq, Nat.reduceLeDiff, Nat.reduceMul, Nat.reduceLT, Nat.reduceEqDiff, Int.reduceBNe, Int.reduceBEq, Int.reduceEq, Int.reduceLT, Int.reduceLE, Int.reduceGT, Int.reduceGE, mu10, List.contains_nil, List.contains_cons, Nat.reduceBEq, Bool.or_self, dlt_t, dlt_f, dle_t, dle_f, dgt_t, dgt_f, dge_t, dge_f, beq_t, beq_f, bne_t, bne_f, lt_T, le_T, nle_T, nle_F, ↓wrap_up, ↓wrap_down, ↓wrap_pred, ↓wrap_sub_nat, i64_in, i64_quo, rem_in, Int.reduceToNat, room_ok, hYl, hx, h23, h43, htk, hal, Bool.false_and]
            repeat' (first | intro _ | apply And.intro | (unfold dOk; kernel_rfl) | exact St.beq_refl _ | (show altO _ _ _ _ = true; kernel_rfl) | (show (_ || _) = true; kernel_rfl) | (show (_ && _) = true; kernel_rfl))
            all_goals first | exact hal | exact (by first | rfl | (refine prep_to (n := 3) (m := ⟨some [14, 12, 10, 8], some 3, []⟩) rfl rfl ?_ ?_ ?_ <;> first | rfl | (simp [keepT, AV.underL, AV.under, MB.under, underL_plain, under_plain, underL_append, plain_ints, plain_span, plain_ins, plain_prg, -List.map_take, -List.map_replicate, -List.map_set, plain_prg]; done) | (simp [keepT, AV.underL, AV.under, MB.under, underL_plain, under_plain, underL_append, plain_ints, plain_span, plain_ins, plain_prg, -List.map_take, -List.map_replicate, -List.map_set, plain_prg]; omega))) | contradiction | omega
        · intro _
          have h18 := f18
          simp +contextual (disch := omega) only [Try.f10, dd10, ty0, ty3, ty4, ty22, ty23, ty26, ty28, ty35, ty36, ty37, ty53, ty54, ty86, ty87, go_sem, ↓reduceIte, List.reduceReplicate, Nat.reduceAdd, Nat.reduceSub, reduceCtorEq, Nat.reduceLeDiff, Nat.reduceMul, Nat.reduceLT, Nat.reduceEqDiff, Int.reduceBNe, Int.reduceBEq, Int.reduceEq, Int.reduceLT, Int.reduceLE, Int.reduceGT, Int.reduceGE, mu10, List.contains_nil, List.contains_cons, Nat.reduceBEq, Bool.or_self, dlt_t, dlt_f, dle_t, dle_f, dgt_t, dgt_f, dge_t, dge_f, beq_t, beq_f, bne_t, bne_f, lt_T, le_T, nle_T, nle_F, ↓wrap_up, ↓wrap_down, ↓wrap_pred, ↓wrap_sub_nat, i64_in, i64_quo, rem_in, Int.reduceToNat, room_ok, hYl, h18]
          exact fzEq rfl rfl
        · exact (by first | rfl | (refine prep_to (n := 3) (m := ⟨some [14, 12, 10, 8], some 3, []⟩) rfl rfl ?_ ?_ ?_ <;> first | rfl | (simp [keepT, AV.underL, AV.under, MB.under, underL_plain, under_plain, underL_append, plain_ints, plain_span, plain_ins, plain_prg, -List.map_take, -List.map_replicate, -List.map_set, plain_prg]; done) | (simp [keepT, AV.underL, AV.under, MB.under, underL_plain, under_plain, underL_append, plain_ints, plain_span, plain_ins, plain_prg, -List.map_take, -List.map_replicate, -List.map_set, plain_prg]; omega)))
      · simp only [List.take_zero, symS, List.flatMap_nil, List.map_cons, List.map_nil]
        exact (by first | rfl | (refine prep_to (n := 3) (m := ⟨some [13, 12, 10, 8, 5], some 3, []⟩) rfl rfl ?_ ?_ ?_ <;> first | rfl | (simp [keepT, AV.underL, AV.under, MB.under, underL_plain, under_plain, underL_append, plain_ints, plain_span, plain_ins, plain_prg, -List.map_take, -List.map_replicate, -List.map_set, plain_prg]; done) | (simp [keepT, AV.underL, AV.under, MB.under, underL_plain, under_plain, underL_append, plain_ints, plain_span, plain_ins, plain_prg, -List.map_take, -List.map_replicate, -List.map_set, plain_prg]; omega)))
  · exact (by first | rfl | (refine prep_cut rfl (by rfl) (by rfl) (by rfl) ?_ ?_ <;> simp [AV.underL, AV.under, MB.under, underL_plain, under_plain, plain_ints, plain_span, plain_ins, plain_prg, -List.map_take]))
end Go.Ev
