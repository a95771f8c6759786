/- Functions of the program, each with what it computes; no further conditions. -/
import Derived.Test.YtpbobopcmhpbbaaL05
import Derived.Test.YtpbobopcmhpbbaaL19
import Derived.Test.YtpbobopcmhpbbaaL09
set_option linter.unusedVariables false
set_option linter.unusedSimpArgs false
namespace Go.Ev
attribute [local go_sem] eq_self bindW_some bindW_map bindW_ite bindW_iteN W_seq W_region W_draw W_cond W_ret W_skip W_exit W_scope W_label W_block blockK_norm blockK_ret blockK_exit WO_nil WO_cons WO_guard WD_nil WD_cons WD_guard guardV guardW_boolT guardW_boolF guardW_tup fpL_some fpL_none footprint thenK_norm thenK_ret thenK_exit put_some put_none ev_tmp ev_con ev_func ofK_int ofK_bool ofK_str ofK_nil evOp evBuiltin evCall evLen evAppend getElem_16 getElem_4 List.length_cons List.length_nil List.cons_append List.nil_append List.append_nil if_false if_true Bool.false_eq_true Bool.true_eq_false Option.map_some Option.map_none List.map_cons List.map_nil evBinOp evBin evUn asB_bool splitB_decide splitB_true splitB_false splitB_beq splitB_bne splitB_not endK_ret endK_norm List.getElem?_cons_zero List.getElem?_cons_succ evResults evResult packRes retK_norm retK_ret cellsAt mkVal evFieldAddr evField evIndexAddr evPart evStore evBuild evBuildSlice fillC fillE evSlice evMakeSlice evConvert getRow AV.cells List.head?_cons List.drop_zero List.drop_succ_cons List.take_zero List.take_succ_cons List.drop_nil List.take_nil List.all_cons List.all_nil AV.ok Bool.and_self Bool.and_true Bool.true_and and_self and_true true_and Nat.zero_add Nat.add_zero setCells splice pairsOk FP.apart heapEq_refl sameAt_refl Bool.or_true Bool.true_or Bool.or_false srcElems elemsOf mutDst roundK_norm roundK_exit roundK_ret List.length_map List.getElem?_map Int.toNat_natCast decide_true decide_false Bool.not_true Bool.not_false List.set set_0 set_1 set_2 set_3 set_4 look_hit look lookD_hit lookD_cons lookD_nil ins_hit ins upd_hit upd rem1_hit rem1 dropT dropSt_eq initT cfg_dd cfg_bd cfg_ra actL_nil actL_cons act1 updT_hit updT frzB retE_norm retE_ret bndO bnd evEq eqCells not_false_eq_true not_true_eq_false toList_some Array.size_empty List.length_append List.map_append tySzE List.head?_drop Nat.mul_one sameAt_zero sameAt_two sameAt_three sameAt_four sameAt_five endE_norm endE_ret head_take1
open Go.Proofs Go.RowKit Go.IntWalk
set_option maxRecDepth 100000
set_option linter.unusedSimpArgs false
set_option linter.unusedVariables false
set_option maxHeartbeats 8000000

theorem in64_tdiv' {n : Int} (h : In64 n) (m : Int) (hm : 1 ≤ m) : In64 (n.tdiv m) := by
  obtain ⟨a, b⟩ := h
  have key : ∀ k : Int, 0 ≤ k → 0 ≤ k / m ∧ k / m ≤ k := fun k hk => ⟨Int.ediv_nonneg hk (by omega), by
    have := Int.ediv_le_self m hk
    exact this⟩
  rcases Int.le_total 0 n with hn | hn
  · rw [Int.tdiv_eq_ediv_of_nonneg hn]
    have := key n hn
    exact ⟨by omega, by omega⟩
  · have e : n = -(-n) := by omega
    rw [e, Int.neg_tdiv, Int.tdiv_eq_ediv_of_nonneg (by omega)]
    have := key (-n) (by omega)
    exact ⟨by omega, by omega⟩
theorem reC_drop (r : Re) : (reC r).drop 8 = [] := List.drop_of_length_le (by rw [reC_len]; omega)
theorem fzA_slp (j : List AV → List MB → Option (List AV × List MB)) (a : Bool) {xs : List AV} (H : List MB) (hp : AV.plainL xs = true) : fzA j (.sl a xs) H = some (.sl false xs, H) := by
  unfold fzA
  rw [fzL_plain j xs H hp]
theorem fz_node (a b : Bool) (op : Int) (set : List (Int × Int)) (kids : List Re) (mn mx md n : Int) (neg : Bool) (H : List MB) :
    fz (.agg [I op, .sl a (set.map spanAV), .sl b (kids.map reAV), I mn, I mx, I md, I n, .bool neg]) H = some (.agg [I op, .sl false (set.map spanAV), .sl false (kids.map reAV), I mn, I mx, I md, I n, .bool neg], H) := by
  simp only [fz, fzA_agg, fzL, fzA_slp _ _ _ (plain_span set), fzA_slp _ _ _ (plain_kids kids), fzA_int]
  rfl
theorem fzs_node (a b : Bool) (op : Int) (set : List (Int × Int)) (kids : List Re) (mn mx md n : Int) (neg : Bool) (H : List MB) :
    fzs [.agg [I op, .sl a (set.map spanAV), .sl b (kids.map reAV), I mn, I mx, I md, I n, .bool neg]] H = some ([.agg [I op, .sl false (set.map spanAV), .sl false (kids.map reAV), I mn, I mx, I md, I n, .bool neg]], H) := by
  have := fz_node a b op set kids mn mx md n neg H
  unfold fz at this
  simp only [fzs, fzL, this]
def limMost (p : Int) : Int := 1 + aroundI p 32
def limX (mode p : Int) (r : Re) : Re := .mk 4 [] [r] (aroundI (p.tdiv 32) (limMost p + 1)) (if aroundI (p.tdiv 1056) 3 = 0 then -1 else limMost p) (aroundI mode 2) 0 false
def limStep (mode p : Int) (r : Re) : Re := if nullG (limX mode p r) = true then .mk 2 [] [limX mode p r, setRe 98] 0 0 0 0 false else limX mode p r
def limRe (mode : Int) : List Int → Re
  | [] => setRe 97
  | p :: l => limStep mode p (limRe mode l)
theorem limRe_wt (mode : Int) : ∀ l : List Int, (limRe mode l).wt ≤ 4 * l.length + 2
  | [] => by simp [limRe, Re.wt, Re.wtL]
  | p :: l => by
    have := limRe_wt mode l
    simp only [limRe, limStep]
    split <;> simp only [limX, Re.wt, Re.wtL, List.length_cons, List.length_nil] <;> omega
/-- The tree behind so many rounds. -/
def limN (mode a b c : Int) (i : Nat) : Re := limRe mode (([a, b, c].take i).reverse)
theorem limN_succ (mode a b c : Int) {i : Nat} {p : Int} (h : [a, b, c][i]? = some p) : limN mode a b c (i + 1) = limStep mode p (limN mode a b c i) := by
  have : [a, b, c].take (i + 1) = [a, b, c].take i ++ [p] := by rw [List.take_add_one, h]; rfl
  simp [limN, this, limRe]
theorem limN_wt (mode a b c : Int) (i : Nat) : (limN mode a b c i).wt ≤ 14 := by
  have := limRe_wt mode (([a, b, c].take i).reverse)
  simp only [List.length_reverse, List.length_take, List.length_cons, List.length_nil] at this
  unfold limN
  omega
def limAr (k m : Int) : Re := .mk 5 [] [.mk 2 [] [setRe 97, .mk 5 [] [setRe 98] 0 0 0 m false] 0 0 0 0 false] 0 0 0 k false
def limPo (r : Re) : Re := .mk 4 [] [r] 0 (-1) 2 0 false

theorem comp_err (p : Pat) : (compP p).2 ≠ 0 → (compP p).1.ins = [] := by
  unfold compP
  repeat' split
  all_goals simp
theorem comp_ar (k m : Int) (hk : 1 ≤ k ∧ k ≤ 9) (hm : 1 ≤ m ∧ m ≤ 9) : ((compP ⟨limAr k m, 9, false⟩).2 = 10) ↔ k = m := by
  have hv : validP ⟨limAr k m, 9, false⟩ = 0 := by
    simp [validP, limAr, Re.size, Re.sizeL, Re.depth, Re.depthL, topI, wholeG, wholeL, formedG, kidsG, spansG, badS]
    omega
  have hc : compG [] (limAr k m) = decide (k ≠ m) := by
    simp [limAr, compG, compL]
    by_cases h : k = m
    · simp [h]
    · simp [h, Ne.symm h, eq_comm]
  have hl : lenG (limAr k m) + 1 ≤ 8192 := by simp [limAr, lenG, lenL]
  unfold compP
  rw [if_pos hv, hc]
  by_cases h : k = m
  · simp [h]
  · rw [if_pos (decide_eq_true h), if_pos hl]
    simp [h]

theorem f4 (a b c mode n : Int) (ha : In64 a) (hb : In64 b) (hc : In64 c) (hmd : In64 mode) (hn : In64 n) (H : List MB) : call Try.prog pol1 4 [I a, I b, I c, I mode, I n] H = some (.bool true, H) := by
  have h18 := f18
  have h19 := f19
  refine call_run Try.func4 rfl rfl rfl rfl rfl rfl (fun _ => rfl) rfl rfl ?_ H
  have hz1 : ∀ H, fzs [reAV (setRe 97)] H = some ([reAV (setRe 97)], H) := fun H => rfl
  simp +contextual (disch := omega) only [Try.f4, dd4, ty0, ty3, ty4, ty22, ty24, ty26, ty28, ty33, ty35, ty36, ty37, ty41, ty42, go_sem, ↓reduceIte, List.reduceReplicate, Nat.reduceAdd, Nat.reduceSub, reduceCtorEq, Nat.reduceLeDiff, Nat.reduceMul, Nat.reduceLT, Nat.reduceEqDiff, Int.reduceBNe, Int.reduceBEq, Int.reduceEq, Int.reduceLT, Int.reduceLE, Int.reduceGT, Int.reduceGE, mu4, List.contains_nil, List.contains_cons, Nat.reduceBEq, Bool.or_self, dlt_t, dlt_f, dle_t, dle_f, dgt_t, dgt_f, dge_t, dge_f, beq_t, beq_f, bne_t, bne_f, lt_T, le_T, nle_T, nle_F, ↓wrap_up, ↓wrap_down, ↓wrap_pred, ↓wrap_sub_nat, i64_in, i64_quo, rem_in, Int.reduceToNat, room_ok, h19, hz1, AV.beqL_refl, reC_len, reC_ok, reC_take]
  refine W_count (M := (mskOf (pol1.mask 4) (pol1.gc 4) (pol1.acts 4) 0 4)) rfl 3 (fun i => (⟨138, [(13, I i), (12, .sl true [I a, I b, I c]), (11, .rf 0 1 0 0), (4, I n), (3, I mode)], [.row 8 [reAV (limN mode a b c i)] 0]⟩ : St)) (fun _ => True) ?_ ?_ trivial _ (by first | rfl | (simp [keepT, AV.underL, AV.under, MB.under, underL_plain, under_plain, underL_append, plain_ints, plain_span, plain_ins, plain_prg, -List.map_take, -List.map_replicate, -List.map_set]; done))
  · intro i hi _
    obtain ⟨p, hp, hp64⟩ : ∃ p, [a, b, c][i]? = some p ∧ In64 p := by
      have : i = 0 ∨ i = 1 ∨ i = 2 := by omega
      rcases this with rfl | rfl | rfl
      · exact ⟨a, rfl, ha⟩
      · exact ⟨b, rfl, hb⟩
      · exact ⟨c, rfl, hc⟩
    have hpm : [I a, I b, I c][i]? = some (I p) := by
      have := congrArg (Option.map I) hp
      rwa [← List.getElem?_map] at this
    have hs := limN_succ mode a b c hp
    have hw := limN_wt mode a b c i
    generalize limN mode a b c (i + 1) = r' at hs ⊢
    generalize limN mode a b c i = r at hs hw ⊢
    have hq : ∀ m : Int, 2 ≤ m → In64 (p.tdiv m) := fun m hm => in64_tdiv' hp64 m (by omega)
    have b1 := around_lt (n := p) (m := 32) (by omega)
    have h12a := f12 p 32 hp64 (by omega)
    have h12b := f12 (p.tdiv 32) (1 + aroundI p 32 + 1) (hq 32 (by omega)) (by omega)
    have hw1 : IntKind.i64.wrap (p.tdiv 32) = p.tdiv 32 := i64_in _ (hq 32 (by omega))
    have hw2 : IntKind.i64.wrap (p.tdiv 1056) = p.tdiv 1056 := i64_in _ (hq 1056 (by omega))
    have h12c := f12 mode 2 hmd (by omega)
    have h12d := f12 (p.tdiv 1056) 3 (hq 1056 (by omega)) (by omega)
    have hwx := limN_wt mode a b c i
    have hz1 : ∀ mn mx md H, fzs [.agg [I 4, .sl true [], .sl true [.agg (reC r)], I mn, I mx, I md, I 0, .bool false]] H = some ([.agg [I 4, .sl false [], .sl false [.agg (reC r)], I mn, I mx, I md, I 0, .bool false]], H) := fun mn mx md H => fzs_node true true 4 [] [r] mn mx md 0 false H
    have hz2 : ∀ mn mx md H, fzs [.agg [I 2, .sl true [], .sl true [.agg [I 4, .sl false [], .sl false [.agg (reC r)], I mn, I mx, I md, I 0, .bool false], reAV (setRe 98)], I 0, I 0, I 0, I 0, .bool false]] H = some ([.agg [I 2, .sl false [], .sl false [.agg [I 4, .sl false [], .sl false [.agg (reC r)], I mn, I mx, I md, I 0, .bool false], reAV (setRe 98)], I 0, I 0, I 0, I 0, .bool false]], H) :=
      fun mn mx md H => fzs_node true true 2 [] [.mk 4 [] [r] mn mx md 0 false, setRe 98] 0 0 0 0 false H
    have h20 : ∀ mn mx md H, call Try.prog pol1 20 [.agg [I 4, .sl false [], .sl false [.agg (reC r)], I mn, I mx, I md, I 0, .bool false]] H = some (.bool (nullG (.mk 4 [] [r] mn mx md 0 false)), H) := fun mn mx md H =>
      f20 _ (.mk 4 [] [r] mn mx md 0 false) (Nat.le_refl _) (by simp only [Re.wt, Re.wtL, List.length_nil]; omega) H
    have fin : ∀ mx, (if aroundI (p.tdiv 1056) 3 = 0 then (-1 : Int) else 1 + aroundI p 32) = mx → ∀ b, nullG (.mk 4 [] [r] (aroundI (p.tdiv 32) (1 + aroundI p 32 + 1)) mx (aroundI mode 2) 0 false) = b →
        r' = if b = true then .mk 2 [] [.mk 4 [] [r] (aroundI (p.tdiv 32) (1 + aroundI p 32 + 1)) mx (aroundI mode 2) 0 false, setRe 98] 0 0 0 0 false else .mk 4 [] [r] (aroundI (p.tdiv 32) (1 + aroundI p 32 + 1)) mx (aroundI mode 2) 0 false := by
      rintro mx rfl b rfl
      rw [hs]
      rfl
    by_cases hd : aroundI (p.tdiv 1056) 3 = 0
    · have fin := fin (-1) (if_pos hd)
      cases hnu : nullG (.mk 4 [] [r] (aroundI (p.tdiv 32) (1 + aroundI p 32 + 1)) (-1) (aroundI mode 2) 0 false) with
      | true =>
        have fin := fin true hnu
        rw [if_pos rfl] at fin
        subst fin
        simp +contextual (disch := omega) only [Try.f4, dd4, ty0, ty3, ty4, ty22, ty24, ty26, ty28, ty33, ty35, ty36, ty37, ty41, ty42, go_sem, ↓reduceIte, List.reduceReplicate, Nat.reduceAdd, Nat.reduceSub, reduceCtorEq, Nat.reduceLeDiff, Nat.reduceMul, Nat.reduceLT, Nat.reduceEqDiff, Int.reduceBNe, Int.reduceBEq, Int.reduceEq, Int.reduceLT, Int.reduceLE, Int.reduceGT, Int.reduceGE, mu4, List.contains_nil, List.contains_cons, Nat.reduceBEq, Bool.or_self, dlt_t, dlt_f, dle_t, dle_f, dgt_t, dgt_f, dge_t, dge_f, beq_t, beq_f, bne_t, bne_f, lt_T, le_T, nle_T, nle_F, ↓wrap_up, ↓wrap_down, ↓wrap_pred, ↓wrap_sub_nat, i64_in, i64_quo, rem_in, Int.reduceToNat, room_ok, hpm, h12a, h12b, h12c, h12d, hw1, hw2, h20, hnu, hd, h19, hz1, hz2, AV.beqL_refl, reC_len, reC_ok, reC_take, reC_drop]
        repeat' (first | intro _ | apply And.intro | (unfold dOk; kernel_rfl) | (show (_ || _) = true; kernel_rfl) | (show (_ && _) = true; kernel_rfl))
        exact (by first | rfl | (simp [keepT, AV.underL, AV.under, MB.under, underL_plain, under_plain, underL_append, plain_ints, plain_span, plain_ins, plain_prg, -List.map_take, -List.map_replicate, -List.map_set]; done))
      | false =>
        have fin := fin false hnu
        rw [if_neg Bool.false_ne_true] at fin
        subst fin
        simp +contextual (disch := omega) only [Try.f4, dd4, ty0, ty3, ty4, ty22, ty24, ty26, ty28, ty33, ty35, ty36, ty37, ty41, ty42, go_sem, ↓reduceIte, List.reduceReplicate, Nat.reduceAdd, Nat.reduceSub, reduceCtorEq, Nat.reduceLeDiff, Nat.reduceMul, Nat.reduceLT, Nat.reduceEqDiff, Int.reduceBNe, Int.reduceBEq, Int.reduceEq, Int.reduceLT, Int.reduceLE, Int.reduceGT, Int.reduceGE, mu4, List.contains_nil, List.contains_cons, Nat.reduceBEq, Bool.or_self, dlt_t, dlt_f, dle_t, dle_f, dgt_t, dgt_f, dge_t, dge_f, beq_t, beq_f, bne_t, bne_f, lt_T, le_T, nle_T, nle_F, ↓wrap_up, ↓wrap_down, ↓wrap_pred, ↓wrap_sub_nat, i64_in, i64_quo, rem_in, Int.reduceToNat, room_ok, hpm, h12a, h12b, h12c, h12d, hw1, hw2, h20, hnu, hd, h19, hz1, hz2, AV.beqL_refl, reC_len, reC_ok, reC_take, reC_drop]
        repeat' (first | intro _ | apply And.intro | (unfold dOk; kernel_rfl) | (show (_ || _) = true; kernel_rfl) | (show (_ && _) = true; kernel_rfl))
        exact (by first | rfl | (simp [keepT, AV.underL, AV.under, MB.under, underL_plain, under_plain, underL_append, plain_ints, plain_span, plain_ins, plain_prg, -List.map_take, -List.map_replicate, -List.map_set]; done))
    · have fin := fin _ (if_neg hd)
      cases hnu : nullG (.mk 4 [] [r] (aroundI (p.tdiv 32) (1 + aroundI p 32 + 1)) (1 + aroundI p 32) (aroundI mode 2) 0 false) with
      | true =>
        have fin := fin true hnu
        rw [if_pos rfl] at fin
        subst fin
        simp +contextual (disch := omega) only [Try.f4, dd4, ty0, ty3, ty4, ty22, ty24, ty26, ty28, ty33, ty35, ty36, ty37, ty41, ty42, go_sem, ↓reduceIte, List.reduceReplicate, Nat.reduceAdd, Nat.reduceSub, reduceCtorEq, Nat.reduceLeDiff, Nat.reduceMul, Nat.reduceLT, Nat.reduceEqDiff, Int.reduceBNe, Int.reduceBEq, Int.reduceEq, Int.reduceLT, Int.reduceLE, Int.reduceGT, Int.reduceGE, mu4, List.contains_nil, List.contains_cons, Nat.reduceBEq, Bool.or_self, dlt_t, dlt_f, dle_t, dle_f, dgt_t, dgt_f, dge_t, dge_f, beq_t, beq_f, bne_t, bne_f, lt_T, le_T, nle_T, nle_F, ↓wrap_up, ↓wrap_down, ↓wrap_pred, ↓wrap_sub_nat, i64_in, i64_quo, rem_in, Int.reduceToNat, room_ok, hpm, h12a, h12b, h12c, h12d, hw1, hw2, h20, hnu, hd, h19, hz1, hz2, AV.beqL_refl, reC_len, reC_ok, reC_take, reC_drop]
        repeat' (first | intro _ | apply And.intro | (unfold dOk; kernel_rfl) | (show (_ || _) = true; kernel_rfl) | (show (_ && _) = true; kernel_rfl))
        exact (by first | rfl | (simp [keepT, AV.underL, AV.under, MB.under, underL_plain, under_plain, underL_append, plain_ints, plain_span, plain_ins, plain_prg, -List.map_take, -List.map_replicate, -List.map_set]; done))
      | false =>
        have fin := fin false hnu
        rw [if_neg Bool.false_ne_true] at fin
        subst fin
        simp +contextual (disch := omega) only [Try.f4, dd4, ty0, ty3, ty4, ty22, ty24, ty26, ty28, ty33, ty35, ty36, ty37, ty41, ty42, go_sem, ↓reduceIte, List.reduceReplicate, Nat.reduceAdd, Nat.reduceSub, reduceCtorEq, Nat.reduceLeDiff, Nat.reduceMul, Nat.reduceLT, Nat.reduceEqDiff, Int.reduceBNe, Int.reduceBEq, Int.reduceEq, Int.reduceLT, Int.reduceLE, Int.reduceGT, Int.reduceGE, mu4, List.contains_nil, List.contains_cons, Nat.reduceBEq, Bool.or_self, dlt_t, dlt_f, dle_t, dle_f, dgt_t, dgt_f, dge_t, dge_f, beq_t, beq_f, bne_t, bne_f, lt_T, le_T, nle_T, nle_F, ↓wrap_up, ↓wrap_down, ↓wrap_pred, ↓wrap_sub_nat, i64_in, i64_quo, rem_in, Int.reduceToNat, room_ok, hpm, h12a, h12b, h12c, h12d, hw1, hw2, h20, hnu, hd, h19, hz1, hz2, AV.beqL_refl, reC_len, reC_ok, reC_take, reC_drop]
        repeat' (first | intro _ | apply And.intro | (unfold dOk; kernel_rfl) | (show (_ || _) = true; kernel_rfl) | (show (_ && _) = true; kernel_rfl))
        exact (by first | rfl | (simp [keepT, AV.underL, AV.under, MB.under, underL_plain, under_plain, underL_append, plain_ints, plain_span, plain_ins, plain_prg, -List.map_take, -List.map_replicate, -List.map_set]; done))
  · intro _
    have hwR := limN_wt mode a b c 3
    generalize limN mode a b c 3 = R at hwR ⊢
    have b1 := around_lt (n := n) (m := 9) (by omega)
    have b2 := around_lt (n := n.tdiv 9) (m := 9) (by omega)
    have h12a := f12 n 9 hn (by omega)
    have h12b := f12 (n.tdiv 9) 9 (in64_tdiv' hn 9 (by omega)) (by omega)
    have hw1 : IntKind.i64.wrap (n.tdiv 9) = n.tdiv 9 := i64_in _ (in64_tdiv' hn 9 (by omega))
    generalize aroundI n 9 = k0 at *
    generalize aroundI (n.tdiv 9) 9 = m0 at *
    have hz3 : ∀ k m H, fzs [.agg [I 5, .sl true [], .sl true [.agg [I 2, .sl true [], .sl true [reAV (setRe 97), .agg [I 5, .sl true [], .sl true [reAV (setRe 98)], I 0, I 0, I 0, I m, .bool false]], I 0, I 0, I 0, I 0, .bool false]], I 0, I 0, I 0, I k, .bool false]] H = some ([reAV (limAr k m)], H) := fun k m H => rfl
    have hz4 : ∀ k m H, fz (.sl true [.agg (reC R), .agg (reC (limAr k m)), .agg [I 4, .sl true [], .sl true [.agg (reC R)], I 0, I (-1), I 2, I 0, .bool false]]) H = some (.sl false ([R, limAr k m, limPo R].map reAV), H) := fun k m H => by
      have e1 : ∀ r H, fzA (fzJ 6) (.agg (reC r)) H = some (.agg (reC r), H) := fun r H => fz_plain H (by simp [AV.plain, plain_reC])
      have e2 : fzA (fzJ 6) (.agg [I 4, .sl true [], .sl true [.agg (reC R)], I 0, I (-1), I 2, I 0, .bool false]) H = some (reAV (limPo R), H) := fz_node true true 4 [] [R] 0 (-1) 2 0 false H
      simp only [fz, fzA_sl, fzL, e1, e2]
      rfl
    have htk8 : ∀ r l, List.take 8 (reC r ++ l) = reC r := fun r l => by
      have := reC_len r
      rw [List.take_append_of_le_length (by omega)]; exact List.take_of_length_le (by omega)
    have hdr9 : ∀ r (a b : AV), List.drop 9 (reC r ++ [a, b]) = [b] := fun r a b => by
      have := reC_len r
      rw [show (9 : Nat) = 8 + 1 from rfl, ← List.drop_drop, List.drop_append_of_le_length (by omega), reC_drop]; rfl
    simp +contextual (disch := omega) only [Try.f4, dd4, ty0, ty3, ty4, ty22, ty24, ty26, ty28, ty33, ty35, ty36, ty37, ty41, ty42, go_sem, ↓reduceIte, List.reduceReplicate, Nat.reduceAdd, Nat.reduceSub, reduceCtorEq, Nat.reduceLeDiff, Nat.reduceMul, Nat.reduceLT, Nat.reduceEqDiff, Int.reduceBNe, Int.reduceBEq, Int.reduceEq, Int.reduceLT, Int.reduceLE, Int.reduceGT, Int.reduceGE, mu4, List.contains_nil, List.contains_cons, Nat.reduceBEq, Bool.or_self, dlt_t, dlt_f, dle_t, dle_f, dgt_t, dgt_f, dge_t, dge_f, beq_t, beq_f, bne_t, bne_f, lt_T, le_T, nle_T, nle_F, ↓wrap_up, ↓wrap_down, ↓wrap_pred, ↓wrap_sub_nat, i64_in, i64_quo, rem_in, Int.reduceToNat, room_ok, h12a, h12b, hw1, h19, hz3, hz4, AV.beqL_refl, reC_len, reC_ok, reC_take, reC_drop]
    refine W_count (M := (mskOf (pol1.mask 4) (pol1.gc 4) (pol1.acts 4) 0 17)) rfl 3 (fun i => (⟨138, [(19, I i), (18, .sl false [reAV R, reAV (limAr (1 + k0) (1 + m0)), reAV (limPo R)]), (16, I (1 + m0)), (15, I (1 + k0))], [.row 8 [reAV R] 0, .row 8 [reAV (limAr (1 + k0) (1 + m0))] 0]⟩ : St)) (fun _ => True) ?_ ?_ trivial _ (by first | rfl | (refine prep_to (n := 2) (m := ⟨some [19, 18, 16, 15], some 2, []⟩) rfl rfl ?_ ?_ ?_ <;> first | rfl | (simp [keepT, AV.underL, AV.under, MB.under, underL_plain, under_plain, underL_append, plain_ints, plain_span, plain_ins, plain_prg, -List.map_take, -List.map_replicate, -List.map_set, plain_reC]; done) | (simp [keepT, AV.underL, AV.under, MB.under, underL_plain, under_plain, underL_append, plain_ints, plain_span, plain_ins, plain_prg, -List.map_take, -List.map_replicate, -List.map_set, plain_reC]; omega)))
    · intro i hi _
      obtain ⟨x, hx, hwx, hx1⟩ : ∃ x, [reAV R, reAV (limAr (1 + k0) (1 + m0)), reAV (limPo R)][i]? = some (reAV x) ∧ x.wt ≤ 1000000 ∧ (i = 1 → x = limAr (1 + k0) (1 + m0)) := by
        have : i = 0 ∨ i = 1 ∨ i = 2 := by omega
        rcases this with rfl | rfl | rfl
        · exact ⟨R, rfl, by omega, fun h => by omega⟩
        · exact ⟨_, rfl, by simp [limAr, Re.wt, Re.wtL], fun _ => rfl⟩
        · exact ⟨limPo R, rfl, by simp only [limPo, Re.wt, Re.wtL, List.length_nil]; omega, fun h => by omega⟩
      have h14 : ∀ H, call Try.prog pol1 14 [.agg (reC x ++ [I 9, .bool false])] H = some (.tup [prgAV (compP ⟨x, 9, false⟩).1, I (compP ⟨x, 9, false⟩).2], H) := f14 ⟨x, 9, false⟩ hwx
      have h15 : ∀ H, call Try.prog pol1 15 [.agg (reC x ++ [I 9, .bool false])] H = some (.tup [prgAV (compP ⟨x, 9, false⟩).1, I (compP ⟨x, 9, false⟩).2], H) := f15 ⟨x, 9, false⟩ hwx
      have he := comp_err ⟨x, 9, false⟩
      have har : i = 1 → ((compP ⟨x, 9, false⟩).2 = 10 ↔ 1 + k0 = 1 + m0) := fun h => by
        rw [hx1 h]; exact comp_ar _ _ (by omega) (by omega)
      generalize compP ⟨x, 9, false⟩ = C at *
      obtain ⟨⟨ci, cc, cr⟩, ce⟩ := C
      simp only at he har h14 h15
      by_cases h0 : ce = 0
      · subst h0
        simp +contextual (disch := omega) only [Try.f4, dd4, ty0, ty3, ty4, ty22, ty24, ty26, ty28, ty33, ty35, ty36, ty37, ty41, ty42, go_sem, ↓reduceIte, List.reduceReplicate, Nat.reduceAdd, Nat.reduceSub, reduceCtorEq, Nat.reduceLeDiff, Nat.reduceMul, Nat.reduceLT, Nat.reduceEqDiff, Int.reduceBNe, Int.reduceBEq, Int.reduceEq, Int.reduceLT, Int.reduceLE, Int.reduceGT, Int.reduceGE, mu4, List.contains_nil, List.contains_cons, Nat.reduceBEq, Bool.or_self, dlt_t, dlt_f, dle_t, dle_f, dgt_t, dgt_f, dge_t, dge_f, beq_t, beq_f, bne_t, bne_f, lt_T, le_T, nle_T, nle_F, ↓wrap_up, ↓wrap_down, ↓wrap_pred, ↓wrap_sub_nat, i64_in, i64_quo, rem_in, Int.reduceToNat, room_ok, hx, h14, h15, h12a, h12b, hw1, h19, htk8, hdr9, AV.beqL_refl, reC_len, reC_ok, reC_take, reC_drop]
        refine ⟨fun e => ⟨fun _ => ?_, fun h => absurd rfl h⟩, fun _ => (by first | rfl | (refine prep_to (n := 2) (m := ⟨some [19, 18, 16, 15], some 2, []⟩) rfl rfl ?_ ?_ ?_ <;> first | rfl | (simp [keepT, AV.underL, AV.under, MB.under, underL_plain, under_plain, underL_append, plain_ints, plain_span, plain_ins, plain_prg, -List.map_take, -List.map_replicate, -List.map_set, plain_reC]; done) | (simp [keepT, AV.underL, AV.under, MB.under, underL_plain, under_plain, underL_append, plain_ints, plain_span, plain_ins, plain_prg, -List.map_take, -List.map_replicate, -List.map_set, plain_reC]; omega)))⟩
        obtain rfl : i = 1 := by omega
        exact (by first | rfl | (refine prep_to (n := 2) (m := ⟨some [19, 18, 16, 15], some 2, []⟩) rfl rfl ?_ ?_ ?_ <;> first | rfl | (simp [keepT, AV.underL, AV.under, MB.under, underL_plain, under_plain, underL_append, plain_ints, plain_span, plain_ins, plain_prg, -List.map_take, -List.map_replicate, -List.map_set, plain_reC]; done) | (simp [keepT, AV.underL, AV.under, MB.under, underL_plain, under_plain, underL_append, plain_ints, plain_span, plain_ins, plain_prg, -List.map_take, -List.map_replicate, -List.map_set, plain_reC]; omega)))
      · have hci := he h0
        subst hci
        simp +contextual (disch := omega) only [Try.f4, dd4, ty0, ty3, ty4, ty22, ty24, ty26, ty28, ty33, ty35, ty36, ty37, ty41, ty42, go_sem, ↓reduceIte, List.reduceReplicate, Nat.reduceAdd, Nat.reduceSub, reduceCtorEq, Nat.reduceLeDiff, Nat.reduceMul, Nat.reduceLT, Nat.reduceEqDiff, Int.reduceBNe, Int.reduceBEq, Int.reduceEq, Int.reduceLT, Int.reduceLE, Int.reduceGT, Int.reduceGE, mu4, List.contains_nil, List.contains_cons, Nat.reduceBEq, Bool.or_self, dlt_t, dlt_f, dle_t, dle_f, dgt_t, dgt_f, dge_t, dge_f, beq_t, beq_f, bne_t, bne_f, lt_T, le_T, nle_T, nle_F, ↓wrap_up, ↓wrap_down, ↓wrap_pred, ↓wrap_sub_nat, i64_in, i64_quo, rem_in, Int.reduceToNat, room_ok, hx, h0, h14, h15, h12a, h12b, hw1, h19, htk8, hdr9, AV.beqL_refl, reC_len, reC_ok, reC_take, reC_drop]
        refine ⟨fun e => ⟨fun _ => ?_, fun h => absurd ?_ h⟩, fun _ => (by first | rfl | (refine prep_to (n := 2) (m := ⟨some [19, 18, 16, 15], some 2, []⟩) rfl rfl ?_ ?_ ?_ <;> first | rfl | (simp [keepT, AV.underL, AV.under, MB.under, underL_plain, under_plain, underL_append, plain_ints, plain_span, plain_ins, plain_prg, -List.map_take, -List.map_replicate, -List.map_set, plain_reC]; done) | (simp [keepT, AV.underL, AV.under, MB.under, underL_plain, under_plain, underL_append, plain_ints, plain_span, plain_ins, plain_prg, -List.map_take, -List.map_replicate, -List.map_set, plain_reC]; omega)))⟩
        · obtain rfl : i = 1 := by omega
          exact (by first | rfl | (refine prep_to (n := 2) (m := ⟨some [19, 18, 16, 15], some 2, []⟩) rfl rfl ?_ ?_ ?_ <;> first | rfl | (simp [keepT, AV.underL, AV.under, MB.under, underL_plain, under_plain, underL_append, plain_ints, plain_span, plain_ins, plain_prg, -List.map_take, -List.map_replicate, -List.map_set, plain_reC]; done) | (simp [keepT, AV.underL, AV.under, MB.under, underL_plain, under_plain, underL_append, plain_ints, plain_span, plain_ins, plain_prg, -List.map_take, -List.map_replicate, -List.map_set, plain_reC]; omega)))
        · have h1 := har (by omega)
          by_cases hce : ce = 10
          · rw [beq_iff_eq.2 hce, beq_iff_eq.2 (h1.1 hce)]
          · rw [beq_eq_false_iff_ne.2 hce, beq_eq_false_iff_ne.2 (fun h => hce (h1.2 h))]
    · intro _
      simp +contextual (disch := omega) only [Try.f4, dd4, ty0, ty3, ty4, ty22, ty24, ty26, ty28, ty33, ty35, ty36, ty37, ty41, ty42, go_sem, ↓reduceIte, List.reduceReplicate, Nat.reduceAdd, Nat.reduceSub, reduceCtorEq, Nat.reduceLeDiff, Nat.reduceMul, Nat.reduceLT, Nat.reduceEqDiff, Int.reduceBNe, Int.reduceBEq, Int.reduceEq, Int.reduceLT, Int.reduceLE, Int.reduceGT, Int.reduceGE, mu4, List.contains_nil, List.contains_cons, Nat.reduceBEq, Bool.or_self, dlt_t, dlt_f, dle_t, dle_f, dgt_t, dgt_f, dge_t, dge_f, beq_t, beq_f, bne_t, bne_f, lt_T, le_T, nle_T, nle_F, ↓wrap_up, ↓wrap_down, ↓wrap_pred, ↓wrap_sub_nat, i64_in, i64_quo, rem_in, Int.reduceToNat, room_ok, h18]
      exact ⟨_, rfl⟩
end Go.Ev
