/- Functions of the program, each with what it computes; no further conditions. -/
import Derived.Test.YtpbobopcmhpbbaaM05
import Derived.Test.YtpbobopcmhpbbaaM19
import Derived.Test.YtpbobopcmhpbbaaM10
set_option linter.unusedVariables false
set_option linter.unusedSimpArgs false
namespace Go.Ev
attribute [local go_sem] eq_self bindW_some bindW_map bindW_ite bindW_iteN W_seq W_region W_draw W_cond W_condK W_ret W_skip W_exit W_scope W_label W_block blockK_norm blockK_ret blockK_exit WO_nil WO_cons WO_guard WD_nil WD_cons WD_guard guardV guardW_boolT guardW_boolF guardW_tup fpL_some fpL_none footprint thenK_norm thenK_ret thenK_exit put_some put_none ev_tmp ev_con ev_func ofK_int ofK_bool ofK_str ofK_nil evOp evBuiltin evCall evLen getElem_16 getElem_4 List.length_cons List.length_nil List.cons_append List.nil_append List.append_nil if_false if_true Bool.false_eq_true Bool.true_eq_false Option.map_some Option.map_none List.map_cons List.map_nil evBinOp evBin evUn asB_bool splitB_decide splitB_true splitB_false splitB_beq splitB_bne splitB_not endK_ret endK_norm List.getElem?_cons_zero List.getElem?_cons_succ evResults evResult packRes retK_norm retK_ret cellsAt mkVal evFieldAddr evField evIndexAddr evPart evStore evBuild evBuildSlice fillC fillE evSlice evMakeSlice evConvert getRow AV.cells List.head?_cons List.drop_zero List.drop_succ_cons List.take_zero List.take_succ_cons List.drop_nil List.take_nil List.all_cons List.all_nil AV.ok Bool.and_self Bool.and_true Bool.true_and and_self and_true true_and Nat.zero_add Nat.add_zero setCells splice pairsOk pairsX altW_none altW_some cfg_al WI_nil WI_cons FP.apart heapEq_refl sameAt_refl Bool.or_true Bool.true_or Bool.or_false srcElems elemsOf mutDst roundK_norm roundK_exit roundK_ret List.length_map List.getElem?_map Int.toNat_natCast decide_true decide_false Bool.not_true Bool.not_false List.set set_0 set_1 set_2 set_3 set_4 look_hit look lookD_hit lookD_cons lookD_nil ins_hit ins upd_hit upd rem1_hit rem1 dropT dropSt_eq initT cfg_dd cfg_bd cfg_ra actL_nil actL_cons act1 updT_hit updT frzB retE_norm retE_ret bndO bnd evEq eqCells not_false_eq_true not_true_eq_false toList_some Array.size_empty List.length_append tySzE List.head?_drop Nat.mul_one sameAt_zero sameAt_two sameAt_three sameAt_four sameAt_five endE_norm endE_ret head_take1
section
attribute [local go_sem] evAppend List.map_append
open Go.Proofs Go.RowKit Go.IntWalk
set_option maxRecDepth 100000
set_option linter.unusedSimpArgs false
set_option linter.unusedVariables false
set_option maxHeartbeats 8000000

theorem in64_tdiv' {n : Int} (h : In64 n) (m : Int) (hm : 1 ≤ m) : In64 (n.tdiv m) := by
  obtain ⟨a, b⟩ := h
  have key : ∀ k : Int, 0 ≤ k → 0 ≤ k / m ∧ k / m ≤ k := fun k hk => ⟨Int.ediv_nonneg hk (by omega), by
    have := Int.ediv_le_self m hk
    exact this⟩
  rcases Int.le_total 0 n with hn | hn
  · rw [Int.tdiv_eq_ediv_of_nonneg hn]
    have := key n hn
    exact ⟨by omega, by omega⟩
  · have e : n = -(-n) := by omega
    rw [e, Int.neg_tdiv, Int.tdiv_eq_ediv_of_nonneg (by omega)]
    have := key (-n) (by omega)
    exact ⟨by omega, by omega⟩
theorem reC_drop (r : Re) : (reC r).drop 8 = [] := List.drop_of_length_le (by rw [reC_len]; omega)
theorem fzA_slp (j : List AV → List MB → Option (List AV × List MB)) (a : Bool) {xs : List AV} (H : List MB) (hp : AV.plainL xs = true) : fzA j (.sl a xs) H = some (.sl false xs, H) := by
  unfold fzA
  rw [fzL_plain j xs H hp]
theorem fz_node (a b : Bool) (op : Int) (set : List (Int × Int)) (kids : List Re) (mn mx md n : Int) (neg : Bool) (H : List MB) :
    fz (.agg [I op, .sl a (set.map spanAV), .sl b (kids.map reAV), I mn, I mx, I md, I n, .bool neg]) H = some (.agg [I op, .sl false (set.map spanAV), .sl false (kids.map reAV), I mn, I mx, I md, I n, .bool neg], H) := by
  simp only [fz, fzA_agg, fzL, fzA_slp _ _ _ (plain_span set), fzA_slp _ _ _ (plain_kids kids), fzA_int]
  rfl
theorem fzs_node (a b : Bool) (op : Int) (set : List (Int × Int)) (kids : List Re) (mn mx md n : Int) (neg : Bool) (H : List MB) :
    fzs [.agg [I op, .sl a (set.map spanAV), .sl b (kids.map reAV), I mn, I mx, I md, I n, .bool neg]] H = some ([.agg [I op, .sl false (set.map spanAV), .sl false (kids.map reAV), I mn, I mx, I md, I n, .bool neg]], H) := by
  have := fz_node a b op set kids mn mx md n neg H
  unfold fz at this
  simp only [fzs, fzL, this]
def limMost (p : Int) : Int := 1 + aroundI p 32
def limX (mode p : Int) (r : Re) : Re := .mk 4 [] [r] (aroundI (p.tdiv 32) (limMost p + 1)) (if aroundI (p.tdiv 1056) 3 = 0 then -1 else limMost p) (aroundI mode 2) 0 false
def limStep (mode p : Int) (r : Re) : Re := if nullG (limX mode p r) = true then .mk 2 [] [limX mode p r, setRe 98] 0 0 0 0 false else limX mode p r
def limRe (mode : Int) : List Int → Re
  | [] => setRe 97
  | p :: l => limStep mode p (limRe mode l)
theorem limRe_wt (mode : Int) : ∀ l : List Int, (limRe mode l).wt ≤ 4 * l.length + 2
  | [] => by simp [limRe, Re.wt, Re.wtL]
  | p :: l => by
    have := limRe_wt mode l
    simp only [limRe, limStep]
    split <;> simp only [limX, Re.wt, Re.wtL, List.length_cons, List.length_nil] <;> omega
/-- The tree behind so many rounds. -/
def limN (mode a b c : Int) (i : Nat) : Re := limRe mode (([a, b, c].take i).reverse)
theorem limN_succ (mode a b c : Int) {i : Nat} {p : Int} (h : [a, b, c][i]? = some p) : limN mode a b c (i + 1) = limStep mode p (limN mode a b c i) := by
  have : [a, b, c].take (i + 1) = [a, b, c].take i ++ [p] := by rw [List.take_add_one, h]; rfl
  simp [limN, this, limRe]
theorem limN_wt (mode a b c : Int) (i : Nat) : (limN mode a b c i).wt ≤ 14 := by
  have := limRe_wt mode (([a, b, c].take i).reverse)
  simp only [List.length_reverse, List.length_take, List.length_cons, List.length_nil] at this
  unfold limN
  omega
def limAr (k m : Int) : Re := .mk 5 [] [.mk 2 [] [setRe 97, .mk 5 [] [setRe 98] 0 0 0 m false] 0 0 0 0 false] 0 0 0 k false
def limPo (r : Re) : Re := .mk 4 [] [r] 0 (-1) 2 0 false

theorem comp_err (p : Pat) : (compP p).2 ≠ 0 → (compP p).1.ins = [] := by
  unfold compP
  repeat' split
  all_goals simp
theorem comp_ar (k m : Int) (hk : 1 ≤ k ∧ k ≤ 9) (hm : 1 ≤ m ∧ m ≤ 9) : ((compP ⟨limAr k m, 9, false⟩).2 = 10) ↔ k = m := by
  have hv : validP ⟨limAr k m, 9, false⟩ = 0 := by
    simp [validP, limAr, Re.size, Re.sizeL, Re.depth, Re.depthL, topI, wholeG, wholeL, formedG, kidsG, spansG, badS]
    omega
  have hc : compG [] (limAr k m) = decide (k ≠ m) := by
    simp [limAr, compG, compL]
    by_cases h : k = m
    · simp [h]
    · simp [h, Ne.symm h, eq_comm]
  have hl : lenG (limAr k m) + 1 ≤ 8192 := by simp [limAr, lenG, lenL]
  unfold compP
  rw [if_pos hv, hc]
  by_cases h : k = m
  · simp [h]
  · rw [if_pos (decide_eq_true h), if_pos hl]
    simp [h]

theorem f4 (a b c mode n : Int) (ha : In64 a) (hb : In64 b) (hc : In64 c) (hmd : In64 mode) (hn : In64 n) (H : List MB) : call Try.prog pol1 4 [I a, I b, I c, I mode, I n] H = some (.bool true, H) := by
  have h18 := f18
  have h19 := f19
  refine call_run Try.func4 rfl rfl rfl rfl rfl rfl (fun _ => rfl) rfl rfl ?_ H
  have hz1 : ∀ H, fzs [reAV (setRe 97)] H = some ([reAV (setRe 97)], H) := fun H => rfl
  simp +contextual (disch := omega) only [Try.f4, dd4, ty0, ty3, ty4, ty22, ty24, ty26, ty28, ty33, ty35, ty36, ty37, ty41, ty42, go_sem, ↓reduceIte, List.reduceReplicate, Nat.reduceAdd, Nat.reduceSub, reduceCtorEq, Nat.reduceLeDiff, Nat.reduceMul, Nat.reduceLT, Nat.reduceEqDiff, Int.reduceBNe, Int.reduceBEq, Int.reduceEq, Int.reduceLT, Int.reduceLE, Int.reduceGT, Int.reduceGE, mu4, List.contains_nil, List.contains_cons, Nat.reduceBEq, Bool.or_self, dlt_t, dlt_f, dle_t, dle_f, dgt_t, dgt_f, dge_t, dge_f, beq_t, beq_f, bne_t, bne_f, lt_T, le_T, nle_T, nle_F, ↓wrap_up, ↓wrap_down, ↓wrap_pred, ↓wrap_sub_nat, i64_in, i64_quo, rem_in, Int.reduceToNat, room_ok, h19, hz1, AV.beqL_refl, reC_len, reC_ok, reC_take]
  refine W_count (M := (mskOf (pol1.mask 4) (pol1.gc 4) (pol1.acts 4) 0 4)) rfl 3 (fun i => (⟨138, [(13, I i), (12, .sl true [I a, I b, I c]), (11, .rf 0 1 0 0), (4, I n), (3, I mode)], [.row 8 [reAV (limN mode a b c i)] 0]⟩ : St)) (fun _ => True) ?_ ?_ trivial _ (by first | rfl | (simp [keepT, AV.underL, AV.under, MB.under, underL_plain, under_plain, underL_append, plain_ints, plain_span, plain_ins, plain_prg, -List.map_take, -List.map_replicate, -List.map_set]; done))
  · intro i hi _
    obtain ⟨p, hp, hp64⟩ : ∃ p, [a, b, c][i]? = some p ∧ In64 p := by
      have : i = 0 ∨ i = 1 ∨ i = 2 := by omega
      rcases this with rfl | rfl | rfl
      · exact ⟨a, rfl, ha⟩
      · exact ⟨b, rfl, hb⟩
      · exact ⟨c, rfl, hc⟩
    have hpm : [I a, I b, I c][i]? = some (I p) := by
      have := congrArg (Option.map I) hp
      rwa [← List.getElem?_map] at this
    have hs := limN_succ mode a b c hp
    have hw := limN_wt mode a b c i
    generalize limN mode a b c (i + 1) = r' at hs ⊢
    generalize limN mode a b c i = r at hs hw ⊢
    have hq : ∀ m : Int, 2 ≤ m → In64 (p.tdiv m) := fun m hm => in64_tdiv' hp64 m (by omega)
    have b1 := around_lt (n := p) (m := 32) (by omega)
    have h12a := f12 p 32 hp64 (by omega)
    have h12b := f12 (p.tdiv 32) (1 + aroundI p 32 + 1) (hq 32 (by omega)) (by omega)
    have hw1 : IntKind.i64.wrap (p.tdiv 32) = p.tdiv 32 := i64_in _ (hq 32 (by omega))
    have hw2 : IntKind.i64.wrap (p.tdiv 1056) = p.tdiv 1056 := i64_in _ (hq 1056 (by omega))
    have h12c := f12 mode 2 hmd (by omega)
    have h12d := f12 (p.tdiv 1056) 3 (hq 1056 (by omega)) (by omega)
    have hwx := limN_wt mode a b c i
    have hz1 : ∀ mn mx md H, fzs [.agg [I 4, .sl true [], .sl true [.agg (reC r)], I mn, I mx, I md, I 0, .bool false]] H = some ([.agg [I 4, .sl false [], .sl false [.agg (reC r)], I mn, I mx, I md, I 0, .bool false]], H) := fun mn mx md H => fzs_node true true 4 [] [r] mn mx md 0 false H
    have hz2 : ∀ mn mx md H, fzs [.agg [I 2, .sl true [], .sl true [.agg [I 4, .sl false [], .sl false [.agg (reC r)], I mn, I mx, I md, I 0, .bool false], reAV (setRe 98)], I 0, I 0, I 0, I 0, .bool false]] H = some ([.agg [I 2, .sl false [], .sl false [.agg [I 4, .sl false [], .sl false [.agg (reC r)], I mn, I mx, I md, I 0, .bool false], reAV (setRe 98)], I 0, I 0, I 0, I 0, .bool false]], H) :=
      fun mn mx md H => fzs_node true true 2 [] [.mk 4 [] [r] mn mx md 0 false, setRe 98] 0 0 0 0 false H
    have h20 : ∀ mn mx md H, call Try.prog pol1 20 [.agg [I 4, .sl false [], .sl false [.agg (reC r)], I mn, I mx, I md, I 0, .bool false]] H = some (.bool (nullG (.mk 4 [] [r] mn mx md 0 false)), H) := fun mn mx md H =>
      f20 _ (.mk 4 [] [r] mn mx md 0 false) (Nat.le_refl _) (by simp only [Re.wt, Re.wtL, List.length_nil]; omega) H
    have fin : ∀ mx, (if aroundI (p.tdiv 1056) 3 = 0 then (-1 : Int) else 1 + aroundI p 32) = mx → ∀ b, nullG (.mk 4 [] [r] (aroundI (p.tdiv 32) (1 + aroundI p 32 + 1)) mx (aroundI mode 2) 0 false) = b →
        r' = if b = true then .mk 2 [] [.mk 4 [] [r] (aroundI (p.tdiv 32) (1 + aroundI p 32 + 1)) mx (aroundI mode 2) 0 false, setRe 98] 0 0 0 0 false else .mk 4 [] [r] (aroundI (p.tdiv 32) (1 + aroundI p 32 + 1)) mx (aroundI mode 2) 0 false := by
      rintro mx rfl b rfl
      rw [hs]
      rfl
    by_cases hd : aroundI (p.tdiv 1056) 3 = 0
    · have fin := fin (-1) (if_pos hd)
      cases hnu : nullG (.mk 4 [] [r] (aroundI (p.tdiv 32) (1 + aroundI p 32 + 1)) (-1) (aroundI mode 2) 0 false) with
      | true =>
        have fin := fin true hnu
        rw [if_pos rfl] at fin
        subst fin
        simp +contextual (disch := omega) only [Try.f4, dd4, ty0, ty3, ty4, ty22, ty24, ty26, ty28, ty33, ty35, ty36, ty37, ty41, ty42, go_sem, ↓reduceIte, List.reduceReplicate, Nat.reduceAdd, Nat.reduceSub, reduceCtorEq, Nat.reduceLeDiff, Nat.reduceMul, Nat.reduceLT, Nat.reduceEqDiff, Int.reduceBNe, Int.reduceBEq, Int.reduceEq, Int.reduceLT, Int.reduceLE, Int.reduceGT, Int.reduceGE, mu4, List.contains_nil, List.contains_cons, Nat.reduceBEq, Bool.or_self, dlt_t, dlt_f, dle_t, dle_f, dgt_t, dgt_f, dge_t, dge_f, beq_t, beq_f, bne_t, bne_f, lt_T, le_T, nle_T, nle_F, ↓wrap_up, ↓wrap_down, ↓wrap_pred, ↓wrap_sub_nat, i64_in, i64_quo, rem_in, Int.reduceToNat, room_ok, hpm, h12a, h12b, h12c, h12d, hw1, hw2, h20, hnu, hd, h19, hz1, hz2, AV.beqL_refl, reC_len, reC_ok, reC_take, reC_drop]
        repeat' (first | intro _ | apply And.intro | (unfold dOk; kernel_rfl) | exact St.beq_refl _ | (show altO _ _ _ _ = true; kernel_rfl) | (show (_ || _) = true; kernel_rfl) | (show (_ && _) = true; kernel_rfl))
        exact (by first | rfl | (simp [keepT, AV.underL, AV.under, MB.under, underL_plain, under_plain, underL_append, plain_ints, plain_span, plain_ins, plain_prg, -List.map_take, -List.map_replicate, -List.map_set]; done))
      | false =>
        have fin := fin false hnu
        rw [if_neg Bool.false_ne_true] at fin
        subst fin
        simp +contextual (disch := omega) only [Try.f4, dd4, ty0, ty3, ty4, ty22, ty24, ty26, ty28, ty33, ty35, ty36, ty37, ty41, ty42, go_sem, ↓reduceIte, List.reduceReplicate, Nat.reduceAdd, Nat.reduceSub, reduceCtorEq, Nat.reduceLeDiff, Nat.reduceMul, Nat.reduceLT, Nat.reduceEqDiff, Int.reduceBNe, Int.reduceBEq, Int.reduceEq, Int.reduceLT, Int.reduceLE, Int.reduceGT, Int.reduceGE, mu4, List.contains_nil, List.contains_cons, Nat.reduceBEq, Bool.or_self, dlt_t, dlt_f, dle_t, dle_f, dgt_t, dgt_f, dge_t, dge_f, beq_t, beq_f, bne_t, bne_f, lt_T, le_T, nle_T, nle_F, ↓wrap_up, ↓wrap_down, ↓wrap_pred, ↓wrap_sub_nat, i64_in, i64_quo, rem_in, Int.reduceToNat, room_ok, hpm, h12a, h12b, h12c, h12d, hw1, hw2, h20, hnu, hd, h19, hz1, hz2, AV.beqL_refl, reC_len, reC_ok, reC_take, reC_drop]
        repeat' (first | intro _ | apply And.intro | (unfold dOk; kernel_rfl) | exact St.beq_refl _ | (show altO _ _ _ _ = true; kernel_rfl) | (show (_ || _) = true; kernel_rfl) | (show (_ && _) = true; kernel_rfl))
        exact (by first | rfl | (simp [keepT, AV.underL, AV.under, MB.under, underL_plain, under_plain, underL_append, plain_ints, plain_span, plain_ins, plain_prg, -List.map_take, -List.map_replicate, -List.map_set]; done))
    · have fin := fin _ (if_neg hd)
      cases hnu : nullG (.mk 4 [] [r] (aroundI (p.tdiv 32) (1 + aroundI p 32 + 1)) (1 + aroundI p 32) (aroundI mode 2) 0 false) with
      | true =>
        have fin := fin true hnu
        rw [if_pos rfl] at fin
        subst fin
        simp +contextual (disch := omega) only [Try.f4, dd4, ty0, ty3, ty4, ty22, ty24, ty26, ty28, ty33, ty35, ty36, ty37, ty41, ty42, go_sem, ↓reduceIte, List.reduceReplicate, Nat.reduceAdd, Nat.reduceSub, reduceCtorEq, Nat.reduceLeDiff, Nat.reduceMul, Nat.reduceLT, Nat.reduceEqDiff, Int.reduceBNe, Int.reduceBEq, Int.reduceEq, Int.reduceLT, Int.reduceLE, Int.reduceGT, Int.reduceGE, mu4, List.contains_nil, List.contains_cons, Nat.reduceBEq, Bool.or_self, dlt_t, dlt_f, dle_t, dle_f, dgt_t, dgt_f, dge_t, dge_f, beq_t, beq_f, bne_t, bne_f, lt_T, le_T, nle_T, nle_F, ↓wrap_up, ↓wrap_down, ↓wrap_pred, ↓wrap_sub_nat, i64_in, i64_quo, rem_in, Int.reduceToNat, room_ok, hpm, h12a, h12b, h12c, h12d, hw1, hw2, h20, hnu, hd, h19, hz1, hz2, AV.beqL_refl, reC_len, reC_ok, reC_take, reC_drop]
        repeat' (first | intro _ | apply And.intro | (unfold dOk; kernel_rfl) | exact St.beq_refl _ | (show altO _ _ _ _ = true; kernel_rfl) | (show (_ || _) = true; kernel_rfl) | (show (_ && _) = true; kernel_rfl))
        exact (by first | rfl | (simp [keepT, AV.underL, AV.under, MB.under, underL_plain, under_plain, underL_append, plain_ints, plain_span, plain_ins, plain_prg, -List.map_take, -List.map_replicate, -List.map_set]; done))
      | false =>
        have fin := fin false hnu
        rw [if_neg Bool.false_ne_true] at fin
        subst fin
        simp +contextual (disch := omega) only [Try.f4, dd4, ty0, ty3, ty4, ty22, ty24, ty26, ty28, ty33, ty35, ty36, ty37, ty41, ty42, go_sem, ↓reduceIte, List.reduceReplicate, Nat.reduceAdd, Nat.reduceSub, reduceCtorEq, Nat.reduceLeDiff, Nat.reduceMul, Nat.reduceLT, Nat.reduceEqDiff, Int.reduceBNe, Int.reduceBEq, Int.reduceEq, Int.reduceLT, Int.reduceLE, Int.reduceGT, Int.reduceGE, mu4, List.contains_nil, List.contains_cons, Nat.reduceBEq, Bool.or_self, dlt_t, dlt_f, dle_t, dle_f, dgt_t, dgt_f, dge_t, dge_f, beq_t, beq_f, bne_t, bne_f, lt_T, le_T, nle_T, nle_F, ↓wrap_up, ↓wrap_down, ↓wrap_pred, ↓wrap_sub_nat, i64_in, i64_quo, rem_in, Int.reduceToNat, room_ok, hpm, h12a, h12b, h12c, h12d, hw1, hw2, h20, hnu, hd, h19, hz1, hz2, AV.beqL_refl, reC_len, reC_ok, reC_take, reC_drop]
        repeat' (first | intro _ | apply And.intro | (unfold dOk; kernel_rfl) | exact St.beq_refl _ | (show altO _ _ _ _ = true; kernel_rfl) | (show (_ || _) = true; kernel_rfl) | (show (_ && _) = true; kernel_rfl))
        exact (by first | rfl | (simp [keepT, AV.underL, AV.under, MB.under, underL_plain, under_plain, underL_append, plain_ints, plain_span, plain_ins, plain_prg, -List.map_take, -List.map_replicate, -List.map_set]; done))
  · intro _
    have hwR := limN_wt mode a b c 3
    generalize limN mode a b c 3 = R at hwR ⊢
    have b1 := around_lt (n := n) (m := 9) (by omega)
    have b2 := around_lt (n := n.tdiv 9) (m := 9) (by omega)
    have h12a := f12 n 9 hn (by omega)
    have h12b := f12 (n.tdiv 9) 9 (in64_tdiv' hn 9 (by omega)) (by omega)
    have hw1 : IntKind.i64.wrap (n.tdiv 9) = n.tdiv 9 := i64_in _ (in64_tdiv' hn 9 (by omega))
    generalize aroundI n 9 = k0 at *
    generalize aroundI (n.tdiv 9) 9 = m0 at *
    have hz3 : ∀ k m H, fzs [.agg [I 5, .sl true [], .sl true [.agg [I 2, .sl true [], .sl true [reAV (setRe 97), .agg [I 5, .sl true [], .sl true [reAV (setRe 98)], I 0, I 0, I 0, I m, .bool false]], I 0, I 0, I 0, I 0, .bool false]], I 0, I 0, I 0, I k, .bool false]] H = some ([reAV (limAr k m)], H) := fun k m H => rfl
    have hz4 : ∀ k m H, fz (.sl true [.agg (reC R), .agg (reC (limAr k m)), .agg [I 4, .sl true [], .sl true [.agg (reC R)], I 0, I (-1), I 2, I 0, .bool false]]) H = some (.sl false ([R, limAr k m, limPo R].map reAV), H) := fun k m H => by
      have e1 : ∀ r H, fzA (fzJ 6) (.agg (reC r)) H = some (.agg (reC r), H) := fun r H => fz_plain H (by simp [AV.plain, plain_reC])
      have e2 : fzA (fzJ 6) (.agg [I 4, .sl true [], .sl true [.agg (reC R)], I 0, I (-1), I 2, I 0, .bool false]) H = some (reAV (limPo R), H) := fz_node true true 4 [] [R] 0 (-1) 2 0 false H
      simp only [fz, fzA_sl, fzL, e1, e2]
      rfl
    have htk8 : ∀ r l, List.take 8 (reC r ++ l) = reC r := fun r l => by
      have := reC_len r
      rw [List.take_append_of_le_length (by omega)]; exact List.take_of_length_le (by omega)
    have hdr9 : ∀ r (a b : AV), List.drop 9 (reC r ++ [a, b]) = [b] := fun r a b => by
      have := reC_len r
      rw [show (9 : Nat) = 8 + 1 from rfl, ← List.drop_drop, List.drop_append_of_le_length (by omega), reC_drop]; rfl
    simp +contextual (disch := omega) only [Try.f4, dd4, ty0, ty3, ty4, ty22, ty24, ty26, ty28, ty33, ty35, ty36, ty37, ty41, ty42, go_sem, ↓reduceIte, List.reduceReplicate, Nat.reduceAdd, Nat.reduceSub, reduceCtorEq, Nat.reduceLeDiff, Nat.reduceMul, Nat.reduceLT, Nat.reduceEqDiff, Int.reduceBNe, Int.reduceBEq, Int.reduceEq, Int.reduceLT, Int.reduceLE, Int.reduceGT, Int.reduceGE, mu4, List.contains_nil, List.contains_cons, Nat.reduceBEq, Bool.or_self, dlt_t, dlt_f, dle_t, dle_f, dgt_t, dgt_f, dge_t, dge_f, beq_t, beq_f, bne_t, bne_f, lt_T, le_T, nle_T, nle_F, ↓wrap_up, ↓wrap_down, ↓wrap_pred, ↓wrap_sub_nat, i64_in, i64_quo, rem_in, Int.reduceToNat, room_ok, h12a, h12b, hw1, h19, hz3, hz4, AV.beqL_refl, reC_len, reC_ok, reC_take, reC_drop]
    refine W_count (M := (mskOf (pol1.mask 4) (pol1.gc 4) (pol1.acts 4) 0 17)) rfl 3 (fun i => (⟨138, [(19, I i), (18, .sl false [reAV R, reAV (limAr (1 + k0) (1 + m0)), reAV (limPo R)]), (16, I (1 + m0)), (15, I (1 + k0))], [.row 8 [reAV R] 0, .row 8 [reAV (limAr (1 + k0) (1 + m0))] 0]⟩ : St)) (fun _ => True) ?_ ?_ trivial _ (by first | rfl | (refine prep_to (n := 2) (m := ⟨some [19, 18, 16, 15], some 2, []⟩) rfl rfl ?_ ?_ ?_ <;> first | rfl | (simp [keepT, AV.underL, AV.under, MB.under, underL_plain, under_plain, underL_append, plain_ints, plain_span, plain_ins, plain_prg, -List.map_take, -List.map_replicate, -List.map_set, plain_reC]; done) | (simp [keepT, AV.underL, AV.under, MB.under, underL_plain, under_plain, underL_append, plain_ints, plain_span, plain_ins, plain_prg, -List.map_take, -List.map_replicate, -List.map_set, plain_reC]; omega)))
    · intro i hi _
      obtain ⟨x, hx, hwx, hx1⟩ : ∃ x, [reAV R, reAV (limAr (1 + k0) (1 + m0)), reAV (limPo R)][i]? = some (reAV x) ∧ x.wt ≤ 1000000 ∧ (i = 1 → x = limAr (1 + k0) (1 + m0)) := by
        have : i = 0 ∨ i = 1 ∨ i = 2 := by omega
        rcases this with rfl | rfl | rfl
        · exact ⟨R, rfl, by omega, fun h => by omega⟩
        · exact ⟨_, rfl, by simp [limAr, Re.wt, Re.wtL], fun _ => rfl⟩
        · exact ⟨limPo R, rfl, by simp only [limPo, Re.wt, Re.wtL, List.length_nil]; omega, fun h => by omega⟩
      have h14 : ∀ H, call Try.prog pol1 14 [.agg (reC x ++ [I 9, .bool false])] H = some (.tup [prgAV (compP ⟨x, 9, false⟩).1, I (compP ⟨x, 9, false⟩).2], H) := f14 ⟨x, 9, false⟩ hwx
      have h15 : ∀ H, call Try.prog pol1 15 [.agg (reC x ++ [I 9, .bool false])] H = some (.tup [prgAV (compP ⟨x, 9, false⟩).1, I (compP ⟨x, 9, false⟩).2], H) := f15 ⟨x, 9, false⟩ hwx
      have he := comp_err ⟨x, 9, false⟩
      have har : i = 1 → ((compP ⟨x, 9, false⟩).2 = 10 ↔ 1 + k0 = 1 + m0) := fun h => by
        rw [hx1 h]; exact comp_ar _ _ (by omega) (by omega)
      generalize compP ⟨x, 9, false⟩ = C at *
      obtain ⟨⟨ci, cc, cr⟩, ce⟩ := C
      simp only at he har h14 h15
      by_cases h0 : ce = 0
      · subst h0
        simp +contextual (disch := omega) only [Try.f4, dd4, ty0, ty3, ty4, ty22, ty24, ty26, ty28, ty33, ty35, ty36, ty37, ty41, ty42, go_sem, ↓reduceIte, List.reduceReplicate, Nat.reduceAdd, Nat.reduceSub, reduceCtorEq, Nat.reduceLeDiff, Nat.reduceMul, Nat.reduceLT, Nat.reduceEqDiff, Int.reduceBNe, Int.reduceBEq, Int.reduceEq, Int.reduceLT, Int.reduceLE, Int.reduceGT, Int.reduceGE, mu4, List.contains_nil, List.contains_cons, Nat.reduceBEq, Bool.or_self, dlt_t, dlt_f, dle_t, dle_f, dgt_t, dgt_f, dge_t, dge_f, beq_t, beq_f, bne_t, bne_f, lt_T, le_T, nle_T, nle_F, ↓wrap_up, ↓wrap_down, ↓wrap_pred, ↓wrap_sub_nat, i64_in, i64_quo, rem_in, Int.reduceToNat, room_ok, hx, h14, h15, h12a, h12b, hw1, h19, htk8, hdr9, AV.beqL_refl, reC_len, reC_ok, reC_take, reC_drop]
        refine ⟨fun e => ⟨fun _ => ?_, fun h => absurd rfl h⟩, fun _ => (by first | rfl | (refine prep_to (n := 2) (m := ⟨some [19, 18, 16, 15], some 2, []⟩) rfl rfl ?_ ?_ ?_ <;> first | rfl | (simp [keepT, AV.underL, AV.under, MB.under, underL_plain, under_plain, underL_append, plain_ints, plain_span, plain_ins, plain_prg, -List.map_take, -List.map_replicate, -List.map_set, plain_reC]; done) | (simp [keepT, AV.underL, AV.under, MB.under, underL_plain, under_plain, underL_append, plain_ints, plain_span, plain_ins, plain_prg, -List.map_take, -List.map_replicate, -List.map_set, plain_reC]; omega)))⟩
        obtain rfl : i = 1 := by omega
        exact (by first | rfl | (refine prep_to (n := 2) (m := ⟨some [19, 18, 16, 15], some 2, []⟩) rfl rfl ?_ ?_ ?_ <;> first | rfl | (simp [keepT, AV.underL, AV.under, MB.under, underL_plain, under_plain, underL_append, plain_ints, plain_span, plain_ins, plain_prg, -List.map_take, -List.map_replicate, -List.map_set, plain_reC]; done) | (simp [keepT, AV.underL, AV.under, MB.under, underL_plain, under_plain, underL_append, plain_ints, plain_span, plain_ins, plain_prg, -List.map_take, -List.map_replicate, -List.map_set, plain_reC]; omega)))
      · have hci := he h0
        subst hci
        simp +contextual (disch := omega) only [Try.f4, dd4, ty0, ty3, ty4, ty22, ty24, ty26, ty28, ty33, ty35, ty36, ty37, ty41, ty42, go_sem, ↓reduceIte, List.reduceReplicate, Nat.reduceAdd, Nat.reduceSub, reduceCtorEq, Nat.reduceLeDiff, Nat.reduceMul, Nat.reduceLT, Nat.reduceEqDiff, Int.reduceBNe, Int.reduceBEq, Int.reduceEq, Int.reduceLT, Int.reduceLE, Int.reduceGT, Int.reduceGE, mu4, List.contains_nil, List.contains_cons, Nat.reduceBEq, Bool.or_self, dlt_t, dlt_f, dle_t, dle_f, dgt_t, dgt_f, dge_t, dge_f, beq_t, beq_f, bne_t, bne_f, lt_T, le_T, nle_T, nle_F, ↓wrap_up, ↓wrap_down, ↓wrap_pred, ↓wrap_sub_nat, i64_in, i64_quo, rem_in, Int.reduceToNat, room_ok, hx, h0, h14, h15, h12a, h12b, hw1, h19, htk8, hdr9, AV.beqL_refl, reC_len, reC_ok, reC_take, reC_drop]
        refine ⟨fun e => ⟨fun _ => ?_, fun h => absurd ?_ h⟩, fun _ => (by first | rfl | (refine prep_to (n := 2) (m := ⟨some [19, 18, 16, 15], some 2, []⟩) rfl rfl ?_ ?_ ?_ <;> first | rfl | (simp [keepT, AV.underL, AV.under, MB.under, underL_plain, under_plain, underL_append, plain_ints, plain_span, plain_ins, plain_prg, -List.map_take, -List.map_replicate, -List.map_set, plain_reC]; done) | (simp [keepT, AV.underL, AV.under, MB.under, underL_plain, under_plain, underL_append, plain_ints, plain_span, plain_ins, plain_prg, -List.map_take, -List.map_replicate, -List.map_set, plain_reC]; omega)))⟩
        · obtain rfl : i = 1 := by omega
          exact (by first | rfl | (refine prep_to (n := 2) (m := ⟨some [19, 18, 16, 15], some 2, []⟩) rfl rfl ?_ ?_ ?_ <;> first | rfl | (simp [keepT, AV.underL, AV.under, MB.under, underL_plain, under_plain, underL_append, plain_ints, plain_span, plain_ins, plain_prg, -List.map_take, -List.map_replicate, -List.map_set, plain_reC]; done) | (simp [keepT, AV.underL, AV.under, MB.under, underL_plain, under_plain, underL_append, plain_ints, plain_span, plain_ins, plain_prg, -List.map_take, -List.map_replicate, -List.map_set, plain_reC]; omega)))
        · have h1 := har (by omega)
          by_cases hce : ce = 10
          · rw [beq_iff_eq.2 hce, beq_iff_eq.2 (h1.1 hce)]
          · rw [beq_eq_false_iff_ne.2 hce, beq_eq_false_iff_ne.2 (fun h => hce (h1.2 h))]
    · intro _
      simp +contextual (disch := omega) only [Try.f4, dd4, ty0, ty3, ty4, ty22, ty24, ty26, ty28, ty33, ty35, ty36, ty37, ty41, ty42, go_sem, ↓reduceIte, List.reduceReplicate, Nat.reduceAdd, Nat.reduceSub, reduceCtorEq, Nat.reduceLeDiff, Nat.reduceMul, Nat.reduceLT, Nat.reduceEqDiff, Int.reduceBNe, Int.reduceBEq, Int.reduceEq, Int.reduceLT, Int.reduceLE, Int.reduceGT, Int.reduceGE, mu4, List.contains_nil, List.contains_cons, Nat.reduceBEq, Bool.or_self, dlt_t, dlt_f, dle_t, dle_f, dgt_t, dgt_f, dge_t, dge_f, beq_t, beq_f, bne_t, bne_f, lt_T, le_T, nle_T, nle_F, ↓wrap_up, ↓wrap_down, ↓wrap_pred, ↓wrap_sub_nat, i64_in, i64_quo, rem_in, Int.reduceToNat, room_ok, h18]
      exact ⟨_, rfl⟩
end
section
attribute [local go_sem] evAppend List.map_append
open Go.Proofs Go.RowKit Go.IntWalk
set_option maxRecDepth 100000
set_option linter.unusedSimpArgs false
set_option linter.unusedVariables false
set_option maxHeartbeats 8000000

theorem plain_re (r : Re) : AV.plain (reAV r) = true := plain_reC r
/-- What the maker of trees keeps, but for its list and what may be used. -/
structure MS where
  at_ : Int
  left : Int
  caps : Int
abbrev mkAV (l : List Int) (uses : Int) (s : MS) : AV := .agg [.sl false (l.map I), I s.at_, I uses, I s.left, I s.caps]
abbrev mH (b0 : MB) (l : List Int) (uses : Int) (s : MS) (K : List MB) : List MB := b0 :: .row 5 [mkAV l uses s] 0 :: K
def nx (l : List Int) (n : Int) (s : MS) : Int × MS := (pickI l s.at_ n, ⟨s.at_ + 1, s.left, s.caps⟩)
theorem kept_mk (n : Nat) (b0 x y : MB) (K L : List MB) (h : MB.under n y = true) : keptOk n (b0 :: x :: K) (b0 :: y :: (K ++ L)) = true := by
  simp only [keptOk, MB.beq_refl, h, Bool.true_or, Bool.or_true, Bool.true_and]
  exact keptOk_self n L K
theorem ret_mk {f : Nat} (hk : pol1.keep f = false) (ho : pol1.own f = false) {l : List Int} {uses : Int} {s s' : MS} {b0 : MB} {K L : List MB} {r r' : AV} (hz : ∀ H, fz r H = some (r', H)) (hp : AV.plain r' = true) :
    retPol pol1 f (mH b0 l uses s K) r (mH b0 l uses s' (K ++ L)) = some (r', mH b0 l uses s' K) := by
  have h1 := kept_mk (mH b0 l uses s K).length b0 (.row 5 [mkAV l uses s] 0) (.row 5 [mkAV l uses s'] 0) K L (by simp [MB.under, AV.underL, AV.under, underL_plain, plain_ints])
  unfold retPol
  rw [if_neg (by rw [hk]; exact Bool.false_ne_true), if_neg (by rw [ho]; exact Bool.false_ne_true)]
  simp only [hz, under_plain _ _ hp, h1, and_self, if_true]
  simp
theorem ret_mk0 {f : Nat} (hk : pol1.keep f = false) (ho : pol1.own f = false) {l : List Int} {uses : Int} {s s' : MS} {b0 : MB} {K : List MB} {r r' : AV} (hz : ∀ H, fz r H = some (r', H)) (hp : AV.plain r' = true) :
    retPol pol1 f (mH b0 l uses s K) r (mH b0 l uses s' K) = some (r', mH b0 l uses s' K) := by
  have := ret_mk (L := []) hk ho (s := s) (s' := s') (K := K) (l := l) (uses := uses) (b0 := b0) hz hp
  rwa [List.append_nil] at this
theorem f97 (l : List Int) (hl : ∀ x ∈ l, In64 x) (uses n : Int) (hn : n ≠ 0) (s : MS) (hs : 0 ≤ s.at_ ∧ s.at_ ≤ 1000000) (b0 : MB) (K : List MB) :
    call Try.prog pol1 97 [.rf 1 1 0 0, I n] (mH b0 l uses s K) = some (I (nx l n s).1, mH b0 l uses (nx l n s).2 K) := by
  obtain ⟨at_, left, caps⟩ := s
  simp only at hs
  have h57 := f57 l at_ n hl hn
  have fr : frzArgs pol1 97 0 [.rf 1 1 0 0, I n] (mH b0 l uses ⟨at_, left, caps⟩ K) = some ([.rf 1 1 0 0, I n], mH b0 l uses ⟨at_, left, caps⟩ K) := frzArgs_mix _ _ _ rfl
  refine call_run2 (pol := pol1) Try.func97 rfl rfl rfl rfl fr ?_
  have hsub : at_ + 1 - 1 = at_ := by omega
  simp +contextual (disch := omega) only [Try.f97, dd97, ty0, ty3, ty22, ty91, ty93, go_sem, ↓reduceIte, List.reduceReplicate, Nat.reduceAdd, Nat.reduceSub, reduceCtorEq, Nat.reduceLeDiff, Nat.reduceMul, Nat.reduceLT, Nat.reduceEqDiff, Int.reduceBNe, Int.reduceBEq, Int.reduceEq, Int.reduceLT, Int.reduceLE, Int.reduceGT, Int.reduceGE, mu97, List.contains_nil, List.contains_cons, Nat.reduceBEq, Bool.or_self, dlt_t, dlt_f, dle_t, dle_f, dgt_t, dgt_f, dge_t, dge_f, beq_t, beq_f, bne_t, bne_f, lt_T, le_T, nle_T, nle_F, ↓wrap_up, ↓wrap_down, ↓wrap_pred, ↓wrap_sub_nat, i64_in, i64_quo, rem_in, Int.reduceToNat, room_ok, h57, hsub]
  repeat' (first | intro _ | apply And.intro | (unfold dOk; kernel_rfl) | exact St.beq_refl _ | (show altO _ _ _ _ = true; kernel_rfl) | (show (_ || _) = true; kernel_rfl) | (show (_ && _) = true; kernel_rfl))
  exact ret_mk0 (s := ⟨at_, left, caps⟩) (s' := ⟨at_ + 1, left, caps⟩) rfl rfl (fun H => rfl) rfl

/-- The sets that the maker chooses from. -/
def smallS : List (List (Int × Int)) := [[(97, 97)], [(98, 98)], [(97, 98)], [(99, 99)], [(97, 99)], [(0, 96), (98, 255)], [(10, 10), (97, 97)], []]
def setM (l : List Int) (s : MS) : Re × MS := (.mk 1 (smallS.getD ((pickI l s.at_ 15).tdiv 2).toNat []) [] 0 0 0 0 false, ⟨s.at_ + 1, s.left, s.caps⟩)
theorem f98 (l : List Int) (hl : ∀ x ∈ l, In64 x) (uses : Int) (s : MS) (hs : 0 ≤ s.at_ ∧ s.at_ ≤ 1000000) (b0 : MB) (K : List MB) :
    call Try.prog pol1 98 [.rf 1 1 0 0] (mH b0 l uses s K) = some (reAV (setM l s).1, mH b0 l uses (setM l s).2 K) := by
  obtain ⟨at_, left, caps⟩ := s
  have h97 := fun K => f97 l hl uses 15 (by omega) ⟨at_, left, caps⟩ hs b0 K
  have fr : frzArgs pol1 98 0 [.rf 1 1 0 0] (mH b0 l uses ⟨at_, left, caps⟩ K) = some ([.rf 1 1 0 0], mH b0 l uses ⟨at_, left, caps⟩ K) := frzArgs_mix _ _ _ rfl
  have hp := pick_lt (l := l) (i := at_) (m := 15) (by omega)
  simp only [nx] at h97
  unfold setM
  simp only
  generalize pickI l at_ 15 = k at *
  obtain ⟨j, hj, hk⟩ : ∃ j : Nat, j < 8 ∧ k.tdiv 2 = j := ⟨(k.tdiv 2).toNat, by rw [Int.tdiv_eq_ediv_of_nonneg hp.1]; omega, by rw [Int.tdiv_eq_ediv_of_nonneg hp.1]; omega⟩
  have hw : IntKind.i64.wrap (k.tdiv 2) = (j : Int) := by rw [hk]; exact i64_in _ ⟨by omega, by omega⟩
  rw [hk, Int.toNat_natCast]
  obtain ⟨set, hset, hsj⟩ : ∃ set, [AV.sl true [.agg [I 97, I 97]], .sl true [.agg [I 98, I 98]], .sl true [.agg [I 97, I 98]], .sl true [.agg [I 99, I 99]], .sl true [.agg [I 97, I 99]], .sl true [.agg [I 0, I 96], .agg [I 98, I 255]], .sl true [.agg [I 10, I 10], .agg [I 97, I 97]], .sl true []][j]? = some (.sl true (set.map spanAV)) ∧ smallS.getD j [] = set := by
    have : j = 0 ∨ j = 1 ∨ j = 2 ∨ j = 3 ∨ j = 4 ∨ j = 5 ∨ j = 6 ∨ j = 7 := by omega
    rcases this with rfl | rfl | rfl | rfl | rfl | rfl | rfl | rfl <;> exact ⟨_, rfl, rfl⟩
  rw [hsj]
  refine call_run2 (pol := pol1) Try.func98 rfl rfl rfl rfl fr ?_
  simp +contextual (disch := omega) only [Try.f98, dd98, ty0, ty3, ty23, ty26, ty86, ty91, ty189, go_sem, ↓reduceIte, List.reduceReplicate, Nat.reduceAdd, Nat.reduceSub, reduceCtorEq, Nat.reduceLeDiff, Nat.reduceMul, Nat.reduceLT, Nat.reduceEqDiff, Int.reduceBNe, Int.reduceBEq, Int.reduceEq, Int.reduceLT, Int.reduceLE, Int.reduceGT, Int.reduceGE, mu98, List.contains_nil, List.contains_cons, Nat.reduceBEq, Bool.or_self, dlt_t, dlt_f, dle_t, dle_f, dgt_t, dgt_f, dge_t, dge_f, beq_t, beq_f, bne_t, bne_f, lt_T, le_T, nle_T, nle_F, ↓wrap_up, ↓wrap_down, ↓wrap_pred, ↓wrap_sub_nat, i64_in, i64_quo, rem_in, Int.reduceToNat, room_ok, h97, hw, hset, get_last, set_last]
  exact ret_mk (s := ⟨at_, left, caps⟩) (s' := ⟨at_ + 1, left, caps⟩) rfl rfl (fz_node true true 1 set [] 0 0 0 0 false) (plain_re _)

def andI (a b : Int) : Int := IntKind.i64.wrap ((BitVec.ofInt 64 a &&& BitVec.ofInt 64 b).toNat)
theorem evBin_and (a b : Int) : evBin .and .i64 a b = some (.int .i64 (andI a b)) := rfl
def stK (l : List Int) (tr : MS → Re × MS) (s : MS) : Nat → List Re × MS
  | 0 => ([], s)
  | i + 1 => ((stK l tr s i).1 ++ [(tr (nx l 2 (stK l tr s i).2).2).1], (tr (nx l 2 (stK l tr s i).2).2).2)
def kidsF (l : List Int) (tr : MS → Re × MS) (s : MS) : List Re × MS :=
  if (nx l 2 (stK l tr s 2).2).1 = 1 then ((stK l tr s 3).1, (nx l 2 (stK l tr s 3).2).2) else ((stK l tr s 2).1, (nx l 2 (stK l tr s 2).2).2)
def repF (l : List Int) (uses : Int) (tr : MS → Re × MS) (s : MS) : Re × MS :=
  let k := nx l 12 s
  let md := nx l 2 k.2
  let m : Int × MS := if 0 < andI uses 8 then (if (nx l 4 md.2).1 = 0 then 2 else md.1, (nx l 4 md.2).2) else md
  let kid := tr m.2
  let r := if andI uses 32 = 0 ∧ nullG kid.1 = true then setM l kid.2 else kid
  (.mk 4 [] [r.1] (([0, 0, 0, 0, 1, 1, 1, 0, 2, 0, 1, 2] : List Int).getD k.1.toNat 0) (([-1, -1, -1, 1, -1, -1, 2, 2, 2, 3, 1, -1] : List Int).getD k.1.toNat 0) m.1 0 false, r.2)
def capF (l : List Int) (tr : MS → Re × MS) (s : MS) : Re × MS :=
  let p : Bool × MS := if 4 < s.caps + 1 then (true, s) else if 0 < s.caps then (decide ((nx l 9 s).1 = 0), (nx l 9 s).2) else (false, s)
  let q : Int × MS := if p.1 = true then (1 + (nx l (max 1 p.2.caps) p.2).1, (nx l (max 1 p.2.caps) p.2).2) else (s.caps + 1, p.2)
  let kid := tr ⟨q.2.at_, q.2.left, max q.2.caps q.1⟩
  (.mk 5 [] [kid.1] 0 0 0 q.1 false, kid.2)
def leafF (l : List Int) (k : Int) (s : MS) : Re × MS := if k = 0 then (.mk 0 [] [] 0 0 0 0 false, s) else setM l s
def treeStep (l : List Int) (uses : Int) (tr : MS → Re × MS) (k : Int) (s : MS) : Re × MS :=
  if s.left < 3 ∨ (l.length : Int) < s.at_ then leafF l k s
  else if k < 5 then (.mk 2 [] (kidsF l tr s).1 0 0 0 0 false, (kidsF l tr s).2)
  else if k < 8 then (.mk 3 [] (kidsF l tr s).1 0 0 0 0 false, (kidsF l tr s).2)
  else if k < 12 then repF l uses tr s
  else if (k = 12 ∨ k = 13) ∧ 0 < andI uses 64 then capF l tr s
  else if k = 14 ∧ 0 < andI uses 16 then (.mk 11 [] [] 0 0 0 (nx l 6 s).1 false, (nx l 6 s).2)
  else if k = 15 ∧ 0 < andI uses 4 then
    (.mk (7 + (nx l 2 (nx l 3 s).2).1) [] [(tr (nx l 2 (nx l 3 s).2).2).1] 0 0 0 0 ((nx l 3 s).1 == 0), (tr (nx l 2 (nx l 3 s).2).2).2)
  else if k = 16 ∧ 0 < andI uses 8 then (.mk 9 [] [(tr s).1] 0 0 0 0 false, (tr s).2)
  else if k = 17 ∧ 0 < andI uses 1 ∧ 0 < s.caps then (.mk 6 [] [] 0 0 0 (1 + (nx l s.caps s).1) false, (nx l s.caps s).2)
  else if k = 18 ∧ 0 < andI uses 2 ∧ 0 < s.caps then
    (.mk 10 [] [(tr (nx l s.caps s).2).1, (tr (tr (nx l s.caps s).2).2).1] 0 0 0 (1 + (nx l s.caps s).1) false, (tr (tr (nx l s.caps s).2).2).2)
  else setM l s
def treeF (l : List Int) (uses : Int) : Nat → MS → Re × MS
  | 0, s => leafF l (nx l 20 ⟨s.at_, s.left - 1, s.caps⟩).1 (nx l 20 ⟨s.at_, s.left - 1, s.caps⟩).2
  | d + 1, s => treeStep l uses (treeF l uses d) (nx l 20 ⟨s.at_, s.left - 1, s.caps⟩).1 (nx l 20 ⟨s.at_, s.left - 1, s.caps⟩).2

def mA1 : Nat → Int
  | 0 => 3
  | d + 1 => 9 + 3 * mA1 d
def mS1 : Nat → Int
  | 0 => 1
  | d + 1 => 1 + 3 * mS1 d
/-- What is needed of the state ahead of a tree. -/
structure Pre (A S : Int) (s : MS) : Prop where
  a : 0 ≤ s.at_ ∧ s.at_ + A ≤ 1000000
  l : -1000000 ≤ s.left - S ∧ s.left ≤ 1000000
  c : 0 ≤ s.caps ∧ s.caps ≤ 4
structure Post (A S : Int) (s s' : MS) : Prop where
  a : s.at_ ≤ s'.at_ ∧ s'.at_ ≤ s.at_ + A
  l : s.left - S ≤ s'.left ∧ s'.left ≤ s.left
  c : 0 ≤ s'.caps ∧ s'.caps ≤ 4
theorem nx_val (l : List Int) {n : Int} (hn : 0 < n) (s : MS) : 0 ≤ (nx l n s).1 ∧ (nx l n s).1 < n := pick_lt hn
theorem app_re {H : List MB} {i n z : Nat} {els : List AV} {y : AV} {t : Bool} (hi : getRow H i = some (8, els, z)) (hn : els.length = n) (hy : (decide (y.cells.length = 8) && y.cells.all AV.ok) = true) (hz : z ≤ n) (hr : n + 1 ≤ 4000000000) :
    evAppend Try.prog H 24 24 (.ms i 8 n 0 n) (.sl t [y]) = some (.ms i 8 (n + 1) 0 (n + 1), H.set i (.row 8 (els ++ [y]) z)) := by
  have hs : srcElems Try.prog H 26 (.sl t [y]) = some [y] := rfl
  rw [evAppend_end (e := 26) (by kernel_rfl) (by kernel_rfl) (k := 8) (by kernel_rfl) (by_ := 96) (by kernel_rfl) (ze := .agg [I 0, .sl true [], .sl true [], I 0, I 0, I 0, I 0, .bool false]) (by kernel_rfl) rfl (by omega) hs (by simp only [List.all_cons, List.all_nil, hy, Bool.and_true]) hi hn hz (room_ok hr (by omega))]
  rfl
theorem ret_kids {f : Nat} (hk : pol1.keep f = false) (ho : pol1.own f = false) {l : List Int} {uses : Int} {s s' : MS} {b0 : MB} {K : List MB} {ks : List Re} {n : Nat} (hn : ks.length = n) :
    retPol pol1 f (mH b0 l uses s K) (.ms (K.length + 1 + 1) 8 n 0 n) (mH b0 l uses s' (K ++ [.row 8 (ks.map reAV) 0])) = some (.sl false (ks.map reAV), mH b0 l uses s' K) := by
  have hr : getRow (mH b0 l uses s' (K ++ [.row 8 (ks.map reAV) 0])) (K.length + 1 + 1) = some (8, ks.map reAV, 0) := by
    simp [getRow]
  have hz : fz (.ms (K.length + 1 + 1) 8 n 0 n) (mH b0 l uses s' (K ++ [.row 8 (ks.map reAV) 0])) = some (.sl false (ks.map reAV), mH b0 l uses s' (K ++ [.row 8 (ks.map reAV) n])) := by
    rw [fz_row hr (by rw [List.length_map]; exact hn) (plain_kids ks)]
    unfold mark
    rw [hr]
    simp [set_last]
  have h1 := kept_mk (mH b0 l uses s K).length b0 (.row 5 [mkAV l uses s] 0) (.row 5 [mkAV l uses s'] 0) K [.row 8 (ks.map reAV) n] (by simp [MB.under, AV.underL, AV.under, underL_plain, plain_ints])
  unfold retPol
  rw [if_neg (by rw [hk]; exact Bool.false_ne_true), if_neg (by rw [ho]; exact Bool.false_ne_true)]
  simp only [hz, AV.under, underL_plain _ _ (plain_kids ks), h1, and_self, if_true]
  simp
abbrev TreeLaw (l : List Int) (uses : Int) (d : Nat) : Prop := ∀ (s : MS) (b0 : MB) (K : List MB), Pre (mA1 d) (mS1 d) s → call Try.prog pol1 44 [.rf 1 1 0 0, I d] (mH b0 l uses s K) = some (reAV (treeF l uses d s).1, mH b0 l uses (treeF l uses d s).2 K)
abbrev TreeB (l : List Int) (uses : Int) (d : Nat) : Prop := ∀ s : MS, Pre (mA1 d) (mS1 d) s → Post (mA1 d) (mS1 d) s (treeF l uses d s).2
theorem mA1_pos : ∀ d, 3 ≤ mA1 d
  | 0 => by simp [mA1]
  | d + 1 => by have := mA1_pos d; simp only [mA1]; omega
theorem mS1_pos : ∀ d, 1 ≤ mS1 d
  | 0 => by simp [mS1]
  | d + 1 => by have := mS1_pos d; simp only [mS1]; omega
theorem Pre.step {A S : Int} {s s' : MS} {A' S' x y : Int} (h : Pre A S s) (p : Post x y s s') (ha : A' + x ≤ A) (hs : S' + y ≤ S) : Pre A' S' s' := by
  obtain ⟨h1, h2, h3⟩ := h
  obtain ⟨p1, p2, p3⟩ := p
  exact ⟨by omega, by omega, p3⟩
theorem Post.trans {s s' s'' : MS} {x y x' y' : Int} (p : Post x y s s') (q : Post x' y' s' s'') : Post (x + x') (y + y') s s'' := by
  obtain ⟨p1, p2, p3⟩ := p
  obtain ⟨q1, q2, q3⟩ := q
  exact ⟨by omega, by omega, q3⟩
theorem Post.up {s s' : MS} {x y x' y' : Int} (p : Post x y s s') (hx : x ≤ x') (hy : y ≤ y') : Post x' y' s s' := by
  obtain ⟨p1, p2, p3⟩ := p
  exact ⟨by omega, by omega, p3⟩
theorem nx_post (l : List Int) (n : Int) (s : MS) (hc : 0 ≤ s.caps ∧ s.caps ≤ 4) : Post 1 0 s (nx l n s).2 := ⟨by simp only [nx]; omega, by simp only [nx]; omega, hc⟩
theorem setM_post (l : List Int) (s : MS) (hc : 0 ≤ s.caps ∧ s.caps ≤ 4) : Post 1 0 s (setM l s).2 := ⟨by simp only [setM]; omega, by simp only [setM]; omega, hc⟩
theorem stK_post {l : List Int} {uses : Int} {d : Nat} (hb : TreeB l uses d) {s : MS} (hp : Pre (5 + 3 * mA1 d) (3 * mS1 d) s) : ∀ i : Nat, i ≤ 3 → Post (i + i * mA1 d) (i * mS1 d) s (stK l (treeF l uses d) s i).2
  | 0, _ => ⟨by simp [stK], by simp [stK], by simpa [stK] using hp.c⟩
  | i + 1, hi => by
    have p := stK_post hb hp i (by omega)
    have := mA1_pos d
    have := mS1_pos d
    have e1 : ((i + 1 : Nat) : Int) * mA1 d = i * mA1 d + mA1 d := by rw [Int.natCast_add, Int.add_mul]; simp
    have e2 : ((i + 1 : Nat) : Int) * mS1 d = i * mS1 d + mS1 d := by rw [Int.natCast_add, Int.add_mul]; simp
    have e3 : (i : Int) * mA1 d ≤ 2 * mA1 d := Int.mul_le_mul_of_nonneg_right (by omega) (by omega)
    have e4 : (i : Int) * mS1 d ≤ 2 * mS1 d := Int.mul_le_mul_of_nonneg_right (by omega) (by omega)
    have q := p.trans (nx_post l 2 _ p.c)
    have r := hb _ (hp.step q (by omega) (by omega))
    refine (q.trans r).up (by omega) (by omega)
theorem kidsF_post {l : List Int} {uses : Int} {d : Nat} (hb : TreeB l uses d) {s : MS} (hp : Pre (5 + 3 * mA1 d) (3 * mS1 d) s) : Post (5 + 3 * mA1 d) (3 * mS1 d) s (kidsF l (treeF l uses d) s).2 := by
  have p2 := stK_post hb hp 2 (by omega)
  have p3 := stK_post hb hp 3 (by omega)
  have := mA1_pos d
  have := mS1_pos d
  unfold kidsF
  split
  · exact (p3.trans (nx_post l 2 _ p3.c)).up (by omega) (by omega)
  · exact (p2.trans (nx_post l 2 _ p2.c)).up (by omega) (by omega)
theorem stK_len (l : List Int) (tr : MS → Re × MS) (s : MS) : ∀ i, (stK l tr s i).1.length = i
  | 0 => rfl
  | i + 1 => by simp [stK, stK_len l tr s i]

/-! How heavy a tree may be. -/
def mW1 : Nat → Nat
  | 0 => 3
  | d + 1 => 1 + 3 * mW1 d
theorem mW1_pos : ∀ d, 3 ≤ mW1 d
  | 0 => by simp [mW1]
  | d + 1 => by have := mW1_pos d; simp only [mW1]; omega
theorem smallS_len (j : Nat) : (smallS.getD j []).length ≤ 2 := by
  rw [List.getD_eq_getElem?_getD]
  cases h : smallS[j]? with
  | none => simp
  | some x =>
    have hm := List.mem_of_getElem? h
    have : ∀ x ∈ smallS, x.length ≤ 2 := by decide
    exact this x hm
theorem setM_wt (l : List Int) (s : MS) : (setM l s).1.wt ≤ 3 := by
  have := smallS_len ((pickI l s.at_ 15).tdiv 2).toNat
  simp only [setM, Re.wt, Re.wtL]
  omega
theorem leafF_wt (l : List Int) (k : Int) (s : MS) : (leafF l k s).1.wt ≤ 3 := by
  unfold leafF
  split
  · simp [Re.wt, Re.wtL]
  · exact setM_wt l s
theorem Re.wtL_append : ∀ (a b : List Re), Re.wtL (a ++ b) = Re.wtL a + Re.wtL b
  | [], b => by simp [Re.wtL]
  | k :: ks, b => by simp [Re.wtL, Re.wtL_append ks b]; omega
theorem stK_wt {l : List Int} {tr : MS → Re × MS} {W : Nat} (h : ∀ s, (tr s).1.wt ≤ W) (s : MS) : ∀ i, Re.wtL (stK l tr s i).1 ≤ i * W
  | 0 => by simp [stK, Re.wtL]
  | i + 1 => by
    have h1 := stK_wt (l := l) h s i
    have h2 := h (nx l 2 (stK l tr s i).2).2
    simp only [stK, Re.wtL_append, Re.wtL, Nat.add_mul]
    omega
theorem kidsF_wt {l : List Int} {tr : MS → Re × MS} {W : Nat} (h : ∀ s, (tr s).1.wt ≤ W) (s : MS) : Re.wtL (kidsF l tr s).1 ≤ 3 * W := by
  have h2 := stK_wt (l := l) h s 2
  have h3 := stK_wt (l := l) h s 3
  unfold kidsF
  split
  · exact h3
  · simp only; omega
theorem treeF_wt (l : List Int) (uses : Int) : ∀ (d : Nat) (s : MS), (treeF l uses d s).1.wt ≤ mW1 d
  | 0, s => leafF_wt l _ _
  | d + 1, s => by
    have h := treeF_wt l uses d
    have hp := mW1_pos d
    simp only [treeF, mW1]
    generalize (nx l 20 ⟨s.at_, s.left - 1, s.caps⟩).1 = k
    generalize (nx l 20 ⟨s.at_, s.left - 1, s.caps⟩).2 = s1
    have hk := kidsF_wt (l := l) h s1
    have hl := leafF_wt l k s1
    have hs := setM_wt l s1
    generalize treeF l uses d = tr at *
    have key : ∀ (c : Prop) [Decidable c] (x : Re × MS), x.1.wt ≤ mW1 d → (if c then setM l x.2 else x).1.wt ≤ mW1 d := by
      intro c _ x hx
      have := setM_wt l x.2
      split
      · omega
      · exact hx
    have hr : (repF l uses tr s1).1.wt ≤ 1 + 3 * mW1 d := by
      unfold repF
      simp only [Re.wt, Re.wtL, List.length_nil]
      exact Nat.le_trans (Nat.add_le_add_left (Nat.add_le_add_right (key _ _ (h _)) 0) _) (by omega)
    have hc : (capF l tr s1).1.wt ≤ 1 + 3 * mW1 d := by
      unfold capF
      simp only [Re.wt, Re.wtL, List.length_nil]
      have : ∀ s, (tr s).1.wt ≤ mW1 d := h
      refine Nat.le_trans (Nat.add_le_add_left (Nat.add_le_add_right (this _) 0) _) (by omega)
    unfold treeStep
    repeat' split
    all_goals first | omega | (simp only [Re.wt, Re.wtL, List.length_nil]; first | omega | (have := h s1; omega) | (have := h (nx l 2 (nx l 3 s1).2).2; omega) | (have := h (nx l s1.caps s1).2; have := h (tr (nx l s1.caps s1).2).2; omega))
end
section

open Go.Proofs Go.RowKit Go.IntWalk
set_option maxRecDepth 100000
set_option linter.unusedSimpArgs false
set_option linter.unusedVariables false
set_option maxHeartbeats 8000000

section
variable (k : IntKind) (a b : Int)
theorem evBin_add' : evBin .add k a b = some (.int k (k.wrap (a + b))) := rfl
theorem evBin_sub' : evBin .sub k a b = some (.int k (k.wrap (a - b))) := rfl
theorem evBin_eql' : evBin .eql k a b = some (.bool (a == b)) := rfl
theorem evBin_neq' : evBin .neq k a b = some (.bool (a != b)) := rfl
theorem evBin_lss' : evBin .lss k a b = some (.bool (decide (a < b))) := rfl
theorem evBin_gtr' : evBin .gtr k a b = some (.bool (decide (a > b))) := rfl
end
section
variable {α : Type} (K : List α) (a b c x : α)
theorem ex1 : ∃ L, K ++ [a] = K ++ L := ⟨_, rfl⟩
theorem ex2 : ∃ L, K ++ [a] ++ [b] = K ++ L := ⟨[a, b], by simp⟩
theorem ex3 : ∃ L, K ++ [a] ++ [b] ++ [c] = K ++ L := ⟨[a, b, c], by simp⟩
theorem get_l2a : (K ++ [a] ++ [b])[K.length]? = some a := by simp
theorem get_l2b : (K ++ [a] ++ [b])[K.length + 1]? = some b := by simp
theorem set_l2a : (K ++ [a] ++ [b]).set K.length x = K ++ [x] ++ [b] := by simp
theorem set_l2b : (K ++ [a] ++ [b]).set (K.length + 1) x = K ++ [a] ++ [x] := by simp [List.set_append]
theorem get_l3a : (K ++ [a] ++ [b] ++ [c])[K.length]? = some a := by simp
theorem get_l3b : (K ++ [a] ++ [b] ++ [c])[K.length + 1]? = some b := by simp [List.getElem?_append]
theorem get_l3c : (K ++ [a] ++ [b] ++ [c])[K.length + 1 + 1]? = some c := by
  rw [List.getElem?_append_right (by simp)]
  simp
theorem set_l3a : (K ++ [a] ++ [b] ++ [c]).set K.length x = K ++ [x] ++ [b] ++ [c] := by simp
theorem set_l3b : (K ++ [a] ++ [b] ++ [c]).set (K.length + 1) x = K ++ [a] ++ [x] ++ [c] := by simp [List.set_append]
theorem set_l3c : (K ++ [a] ++ [b] ++ [c]).set (K.length + 1 + 1) x = K ++ [a] ++ [b] ++ [x] := by
  rw [List.set_append_right _ _ (by simp)]
  simp
end
theorem ret_mkx {f : Nat} (hk : pol1.keep f = false) (ho : pol1.own f = false) {l : List Int} {uses : Int} (s s' : MS) {b0 : MB} {K M : List MB} (hM : ∃ L, M = K ++ L) {r r' : AV} (hz : ∀ H, fz r H = some (r', H)) (hp : AV.plain r' = true) :
    retPol pol1 f (mH b0 l uses s K) r (mH b0 l uses s' M) = some (r', mH b0 l uses s' K) := by
  obtain ⟨L, rfl⟩ := hM
  exact ret_mk hk ho hz hp
theorem ret_node {f : Nat} (hk : pol1.keep f = false) (ho : pol1.own f = false) {l : List Int} {uses : Int} (s s' : MS) {b0 : MB} {K M : List MB} (hM : ∃ L, M = K ++ L) (a b : Bool) (op : Int) (set : List (Int × Int)) (kids : List Re) (mn mx md n : Int) (neg : Bool) :
    retPol pol1 f (mH b0 l uses s K) (.agg [I op, .sl a (set.map spanAV), .sl b (kids.map reAV), I mn, I mx, I md, I n, .bool neg]) (mH b0 l uses s' M) = some (reAV (.mk op set kids mn mx md n neg), mH b0 l uses s' K) := by
  rw [ret_mkx hk ho s s' hM (fz_node a b op set kids mn mx md n neg) (by simp [AV.plain, AV.plainL, plain_span, plain_kids])]
  rw [show reAV (.mk op set kids mn mx md n neg) = .agg (nodeL op set kids mn mx md n neg) from congrArg AV.agg reC_mk]
section
variable {l : List Int} (hl : ∀ x ∈ l, In64 x) {uses : Int} {d : Nat} (hd : d ≤ 5) (ht : TreeLaw l uses d) (hb : TreeB l uses d)
include hl hd ht hb
theorem f99 (s : MS) (hp : Pre (5 + 3 * mA1 d) (3 * mS1 d) s) (b0 : MB) (K : List MB) :
    call Try.prog pol1 99 [.rf 1 1 0 0, I ((d + 1 : Nat) : Int)] (mH b0 l uses s K) = some (.sl false ((kidsF l (treeF l uses d) s).1.map reAV), mH b0 l uses (kidsF l (treeF l uses d) s).2 K) := by
  have fr : frzArgs pol1 99 0 [.rf 1 1 0 0, I ((d + 1 : Nat) : Int)] (mH b0 l uses s K) = some ([.rf 1 1 0 0, I ((d + 1 : Nat) : Int)], mH b0 l uses s K) := frzArgs_mix _ _ _ rfl
  have hA := mA1_pos d
  have hS := mS1_pos d
  have hpost := fun i hi => stK_post hb hp i hi
  have hmul : ∀ i n : Nat, i ≤ n → (i : Int) * mA1 d ≤ n * mA1 d ∧ (i : Int) * mS1 d ≤ n * mS1 d := fun i n hi => ⟨Int.mul_le_mul_of_nonneg_right (by omega) (by omega), Int.mul_le_mul_of_nonneg_right (by omega) (by omega)⟩
  have hlen := fun i => stK_len l (treeF l uses d) s i
  refine call_run2 (pol := pol1) Try.func99 rfl rfl rfl rfl fr ?_
  obtain ⟨N, hN, hN2, hval⟩ : ∃ N : Nat, 2 ≤ N ∧ N ≤ 3 ∧ kidsF l (treeF l uses d) s = ((stK l (treeF l uses d) s N).1, (nx l 2 (stK l (treeF l uses d) s N).2).2) ∧ (N = 3 → (nx l 2 (stK l (treeF l uses d) s 2).2).1 = 1) ∧ (N = 2 → (nx l 2 (stK l (treeF l uses d) s 2).2).1 ≠ 1) := by
    unfold kidsF
    by_cases h : (nx l 2 (stK l (treeF l uses d) s 2).2).1 = 1
    · exact ⟨3, by omega, by omega, if_pos h, fun _ => h, fun h => by omega⟩
    · exact ⟨2, by omega, by omega, if_neg h, fun h => by omega, fun _ => h⟩
  obtain ⟨hval, h3, h2⟩ := hval
  rw [hval]
  simp +contextual (disch := omega) only [Try.f99, dd99, ty3, ty4, ty24, ty26, ty91, go_sem, ↓reduceIte, evAppend, List.reduceReplicate, Nat.reduceAdd, Nat.reduceSub, reduceCtorEq, Nat.reduceLeDiff, Nat.reduceMul, Nat.reduceLT, Nat.reduceEqDiff, Int.reduceBNe, Int.reduceBEq, Int.reduceEq, Int.reduceLT, Int.reduceLE, Int.reduceGT, Int.reduceGE, List.map_append, mu99, List.contains_nil, List.contains_cons, Nat.reduceBEq, Bool.or_self, dlt_t, dlt_f, dle_t, dle_f, dgt_t, dgt_f, dge_t, dge_f, beq_t, beq_f, bne_t, bne_f, lt_T, le_T, nle_T, nle_F, ↓wrap_up, ↓wrap_down, ↓wrap_pred, ↓wrap_sub_nat, i64_in, i64_quo, rem_in, Int.reduceToNat, room_ok]
  refine W_count (M := (mskOf (pol1.mask 99) (pol1.gc 99) (pol1.acts 99) 0 3)) rfl N (fun i => (⟨22, [(6, I i), (5, .ms (K.length + 1 + 1) 8 i 0 i), (1, I ((d + 1 : Nat) : Int)), (0, .rf 1 1 0 0)], mH b0 l uses (stK l (treeF l uses d) s i).2 (K ++ [.row 8 ((stK l (treeF l uses d) s i).1.map reAV) 0])⟩ : St)) (fun _ => True) ?_ ?_ trivial _ (by rfl)
  · intro i hi _
    have pi := hpost i (by omega)
    have hmi := hmul i 2 (by omega)
    have hli := hlen i
    have e : stK l (treeF l uses d) s (i + 1) = ((stK l (treeF l uses d) s i).1 ++ [(treeF l uses d (nx l 2 (stK l (treeF l uses d) s i).2).2).1], (treeF l uses d (nx l 2 (stK l (treeF l uses d) s i).2).2).2) := rfl
    rw [e]
    have hv2 : i = 2 → (nx l 2 (stK l (treeF l uses d) s i).2).1 = 1 := fun h => by subst h; exact h3 (by omega)
    generalize stK l (treeF l uses d) s i = X at *
    obtain ⟨ks, si⟩ := X
    simp only at pi hli hv2 ⊢
    obtain ⟨pa, pl, pc⟩ := pi
    obtain ⟨qa, ql, qc⟩ := hp
    have h97 := fun K => f97 l hl uses 2 (by omega) si ⟨by omega, by omega⟩ b0 K
    have hv := nx_val l (n := 2) (by omega) si
    have hq := nx_post l 2 si pc
    generalize nx l 2 si = Y at *
    obtain ⟨v, sj⟩ := Y
    simp only at h97 hv hq hv2 ⊢
    obtain ⟨ra, rl, rc⟩ := hq
    have h44 := fun K => ht sj b0 K ⟨by omega, by omega, rc⟩
    generalize treeF l uses d sj = Z at *
    obtain ⟨r, sk⟩ := Z
    simp only at h44 ⊢
    have hap := fun s => app_re (H := mH b0 l uses s (K ++ [.row 8 (ks.map reAV) 0])) (i := K.length + 1 + 1) (n := i) (t := true) (y := reAV r) (z := 0) (els := ks.map reAV) (by simp [getRow]) (by rw [List.length_map]; exact hli) (by simp [AV.cells, reC_len, reC_ok]) (Nat.zero_le _) (by omega)
    simp +contextual (disch := omega) only [Try.f99, dd99, ty3, ty4, ty24, ty26, ty91, go_sem, ↓reduceIte, List.reduceReplicate, Nat.reduceAdd, Nat.reduceSub, reduceCtorEq, Nat.reduceLeDiff, Nat.reduceMul, Nat.reduceLT, Nat.reduceEqDiff, Int.reduceBNe, Int.reduceBEq, Int.reduceEq, Int.reduceLT, Int.reduceLE, Int.reduceGT, Int.reduceGE, mu99, List.contains_nil, List.contains_cons, Nat.reduceBEq, Bool.or_self, dlt_t, dlt_f, dle_t, dle_f, dgt_t, dgt_f, dge_t, dge_f, beq_t, beq_f, bne_t, bne_f, lt_T, le_T, nle_T, nle_F, ↓wrap_up, ↓wrap_down, ↓wrap_pred, ↓wrap_sub_nat, i64_in, i64_quo, rem_in, Int.reduceToNat, room_ok, h97, h44, hap, get_last, set_last, reC_len, reC_ok, reC_take, reC_drop, List.append_nil]
    rw [List.map_append]
    rfl
  · intro _
    have pi := hpost N (by omega)
    have hmi := hmul N 3 (by omega)
    have hli := hlen N
    have hv2 : N = 2 → (nx l 2 (stK l (treeF l uses d) s N).2).1 ≠ 1 := fun h => by rw [h]; exact h2 h
    generalize stK l (treeF l uses d) s N = X at *
    obtain ⟨ks, si⟩ := X
    simp only at pi hli hv2 ⊢
    obtain ⟨pa, pl, pc⟩ := pi
    obtain ⟨qa, ql, qc⟩ := hp
    have h97 := fun K => f97 l hl uses 2 (by omega) si ⟨by omega, by omega⟩ b0 K
    have hv := nx_val l (n := 2) (by omega) si
    generalize nx l 2 si = Y at *
    obtain ⟨v, sj⟩ := Y
    simp only at h97 hv hv2 ⊢
    have hvn : ¬ (N : Int) < 2 + v := by omega
    simp +contextual (disch := omega) only [Try.f99, dd99, ty3, ty4, ty24, ty26, ty91, go_sem, ↓reduceIte, List.reduceReplicate, Nat.reduceAdd, Nat.reduceSub, reduceCtorEq, Nat.reduceLeDiff, Nat.reduceMul, Nat.reduceLT, Nat.reduceEqDiff, Int.reduceBNe, Int.reduceBEq, Int.reduceEq, Int.reduceLT, Int.reduceLE, Int.reduceGT, Int.reduceGE, mu99, List.contains_nil, List.contains_cons, Nat.reduceBEq, Bool.or_self, dlt_t, dlt_f, dle_t, dle_f, dgt_t, dgt_f, dge_t, dge_f, beq_t, beq_f, bne_t, bne_f, lt_T, le_T, nle_T, nle_F, ↓wrap_up, ↓wrap_down, ↓wrap_pred, ↓wrap_sub_nat, i64_in, i64_quo, rem_in, Int.reduceToNat, room_ok, h97, get_last, set_last, reC_len, reC_ok, reC_take, reC_drop, List.append_nil]
    exact ret_kids rfl rfl hli

theorem f100 (s : MS) (hp : Pre (5 + 3 * mA1 d) (3 * mS1 d) s) (b0 : MB) (K : List MB) :
    call Try.prog pol1 100 [.rf 1 1 0 0, I ((d + 1 : Nat) : Int)] (mH b0 l uses s K) = some (reAV (repF l uses (treeF l uses d) s).1, mH b0 l uses (repF l uses (treeF l uses d) s).2 K) := by
  have fr : frzArgs pol1 100 0 [.rf 1 1 0 0, I ((d + 1 : Nat) : Int)] (mH b0 l uses s K) = some ([.rf 1 1 0 0, I ((d + 1 : Nat) : Int)], mH b0 l uses s K) := frzArgs_mix _ _ _ rfl
  have hA := mA1_pos d
  have hS := mS1_pos d
  unfold repF
  obtain ⟨qa, ql, qc⟩ := hp
  have h97a := fun K => f97 l hl uses 12 (by omega) s ⟨by omega, by omega⟩ b0 K
  have hk := nx_val l (n := 12) (by omega) s
  have p1 := nx_post l 12 s qc
  generalize nx l 12 s = Y at *
  obtain ⟨k, s1⟩ := Y
  simp only at h97a hk p1 ⊢
  obtain ⟨kn, rfl⟩ : ∃ kn : Nat, k = kn := ⟨k.toNat, by omega⟩
  obtain ⟨hm1, hm2⟩ : [I 0, I 0, I 0, I 0, I 1, I 1, I 1, I 0, I 2, I 0, I 1, I 2][kn]? = some (I (([0, 0, 0, 0, 1, 1, 1, 0, 2, 0, 1, 2] : List Int).getD kn 0)) ∧ [I (-1), I (-1), I (-1), I 1, I (-1), I (-1), I 2, I 2, I 2, I 3, I 1, I (-1)][kn]? = some (I (([-1, -1, -1, 1, -1, -1, 2, 2, 2, 3, 1, -1] : List Int).getD kn 0)) := by
    have : kn = 0 ∨ kn = 1 ∨ kn = 2 ∨ kn = 3 ∨ kn = 4 ∨ kn = 5 ∨ kn = 6 ∨ kn = 7 ∨ kn = 8 ∨ kn = 9 ∨ kn = 10 ∨ kn = 11 := by omega
    rcases this with rfl | rfl | rfl | rfl | rfl | rfl | rfl | rfl | rfl | rfl | rfl | rfl <;> exact ⟨rfl, rfl⟩
  simp only [Int.toNat_natCast]
  generalize ([0, 0, 0, 0, 1, 1, 1, 0, 2, 0, 1, 2] : List Int).getD kn 0 = mn at *
  generalize ([-1, -1, -1, 1, -1, -1, 2, 2, 2, 3, 1, -1] : List Int).getD kn 0 = mx at *
  have h97b := fun K => f97 l hl uses 2 (by omega) s1 ⟨by have := p1.a; omega, by have := p1.a; omega⟩ b0 K
  have p2 := p1.trans (nx_post l 2 s1 p1.c)
  generalize nx l 2 s1 = Y at *
  obtain ⟨md, s2⟩ := Y
  simp only at h97b p2 ⊢
  have h97c := fun K => f97 l hl uses 4 (by omega) s2 ⟨by have := p2.a; omega, by have := p2.a; omega⟩ b0 K
  have p3' := p2.trans (nx_post l 4 s2 p2.c)
  obtain ⟨m, s3, hm, p3, hms⟩ : ∃ m s3, (if 0 < andI uses 8 then (if (nx l 4 s2).1 = 0 then (2 : Int) else md, (nx l 4 s2).2) else (md, s2)) = (m, s3) ∧ Post (1 + 1 + 1) (0 + 0 + 0) s s3 ∧
      ((¬ 0 < andI uses 8 ∧ m = md ∧ s3 = s2) ∨ (0 < andI uses 8 ∧ (nx l 4 s2).1 = 0 ∧ m = 2 ∧ s3 = (nx l 4 s2).2) ∨ (0 < andI uses 8 ∧ (nx l 4 s2).1 ≠ 0 ∧ m = md ∧ s3 = (nx l 4 s2).2)) := by
    by_cases u : 0 < andI uses 8
    · rw [if_pos u]
      by_cases x0 : (nx l 4 s2).1 = 0
      · rw [if_pos x0]; exact ⟨_, _, rfl, p3', .inr (.inl ⟨u, x0, rfl, rfl⟩)⟩
      · rw [if_neg x0]; exact ⟨_, _, rfl, p3', .inr (.inr ⟨u, x0, rfl, rfl⟩)⟩
    · rw [if_neg u]; exact ⟨_, _, rfl, p2.up (by omega) (by omega), .inl ⟨u, rfl, rfl⟩⟩
  rw [hm]
  clear hm p3'
  simp only
  generalize nx l 4 s2 = Y at *
  obtain ⟨x, s2'⟩ := Y
  simp only at h97c hms ⊢
  have hpre : Pre (mA1 d) (mS1 d) s3 := ⟨⟨by have := p3.a; omega, by have := p3.a; omega⟩, ⟨by have := p3.l; omega, by have := p3.l; omega⟩, p3.c⟩
  have hw6 : mW1 d ≤ 1000000 := by
    have : d = 0 ∨ d = 1 ∨ d = 2 ∨ d = 3 ∨ d = 4 ∨ d = 5 := by omega
    rcases this with rfl | rfl | rfl | rfl | rfl | rfl <;> decide
  have h44 := fun K => ht s3 b0 K hpre
  have p4 := hb s3 hpre
  have h20 := f20 (treeF l uses d s3).1.wt (treeF l uses d s3).1 (Nat.le_refl _) (Nat.le_trans (treeF_wt l uses d s3) hw6)
  generalize treeF l uses d s3 = Y at *
  obtain ⟨r, s4⟩ := Y
  simp only at h44 p4 h20 ⊢
  have h98 := fun K => f98 l hl uses s4 ⟨by have := p3.a; have := p4.a; omega, by have := p3.a; have := p4.a; omega⟩ b0 K
  obtain ⟨X, hX, hXc⟩ : ∃ X, (if andI uses 32 = 0 ∧ nullG r = true then setM l s4 else (r, s4)) = X ∧ ((andI uses 32 ≠ 0 ∧ X = (r, s4)) ∨ (andI uses 32 = 0 ∧ nullG r = true ∧ X = setM l s4) ∨ (andI uses 32 = 0 ∧ nullG r = false ∧ X = (r, s4))) := by
    by_cases u : andI uses 32 = 0
    · cases hn : nullG r with
      | true => exact ⟨_, if_pos ⟨u, rfl⟩, .inr (.inl ⟨u, rfl, rfl⟩)⟩
      | false => exact ⟨_, if_neg (by simp), .inr (.inr ⟨u, rfl, rfl⟩)⟩
    · exact ⟨_, if_neg (fun h => u h.1), .inl ⟨u, rfl⟩⟩
  rw [hX]
  clear hX
  generalize setM l s4 = Y at *
  obtain ⟨r5, s5⟩ := Y
  simp only at h98
  refine call_run2 (pol := pol1) Try.func100 rfl rfl rfl rfl fr ?_
  rcases hms with ⟨u8, rfl, rfl⟩ | ⟨u8, rfl, rfl, rfl⟩ | ⟨u8, x0, rfl, rfl⟩ <;> rcases hXc with ⟨u32, rfl⟩ | ⟨u32, hn, rfl⟩ | ⟨u32, hn, rfl⟩
  all_goals try rw [hn] at h20
  all_goals simp +contextual (disch := omega) only [Try.f100, dd100, ty0, ty3, ty4, ty22, ty24, ty26, ty91, ty93, go_sem, ↓reduceIte, evAppend, List.reduceReplicate, Nat.reduceAdd, Nat.reduceSub, reduceCtorEq, Nat.reduceLeDiff, Nat.reduceMul, Nat.reduceLT, Nat.reduceEqDiff, Int.reduceBNe, Int.reduceBEq, Int.reduceEq, Int.reduceLT, Int.reduceLE, Int.reduceGT, Int.reduceGE, List.map_append, mu100, List.contains_nil, List.contains_cons, Nat.reduceBEq, Bool.or_self, dlt_t, dlt_f, dle_t, dle_f, dgt_t, dgt_f, dge_t, dge_f, beq_t, beq_f, bne_t, bne_f, lt_T, le_T, nle_T, nle_F, ↓wrap_up, ↓wrap_down, ↓wrap_pred, ↓wrap_sub_nat, i64_in, i64_quo, rem_in, Int.reduceToNat, room_ok, h97a, h97b, h97c, h44, h20, h98, hm1, hm2, ↓evBin_and, get_last, set_last, get_l2a, get_l2b, set_l2a, set_l2b, get_l3a, get_l3b, get_l3c, set_l3a, set_l3b, set_l3c, reC_len, reC_ok, reC_take, reC_drop, List.append_nil]
  all_goals repeat' (first | intro _ | apply And.intro | (unfold dOk; kernel_rfl) | exact St.beq_refl _ | (show altO _ _ _ _ = true; kernel_rfl) | (show (_ || _) = true; kernel_rfl) | (show (_ && _) = true; kernel_rfl))
  all_goals exact ret_node (by rfl) (by rfl) s _ (ex3 ..) true true 4 [] [_] _ _ _ 0 false

theorem f101 (s : MS) (hp : Pre (5 + 3 * mA1 d) (3 * mS1 d) s) (b0 : MB) (K : List MB) :
    call Try.prog pol1 101 [.rf 1 1 0 0, I ((d + 1 : Nat) : Int)] (mH b0 l uses s K) = some (reAV (capF l (treeF l uses d) s).1, mH b0 l uses (capF l (treeF l uses d) s).2 K) := by
  have _ := hb
  have fr : frzArgs pol1 101 0 [.rf 1 1 0 0, I ((d + 1 : Nat) : Int)] (mH b0 l uses s K) = some ([.rf 1 1 0 0, I ((d + 1 : Nat) : Int)], mH b0 l uses s K) := frzArgs_mix _ _ _ rfl
  have hA := mA1_pos d
  have hS := mS1_pos d
  unfold capF
  obtain ⟨qa, ql, qc⟩ := hp
  have h97a := fun K => f97 l hl uses 9 (by omega) s ⟨by omega, by omega⟩ b0 K
  have p1 := nx_post l 9 s qc
  have hmx1 : (if s.caps > 1 then s.caps else 1) = max 1 s.caps := by split <;> omega
  have c1 : (nx l 9 s).2.caps = s.caps := rfl
  generalize nx l 9 s = Y at *
  obtain ⟨x, s1⟩ := Y
  simp only at h97a p1 c1 ⊢
  obtain ⟨b, s2, hps, p2, c2, hc⟩ : ∃ (b : Bool) (s2 : MS), (if 4 < s.caps + 1 then (true, s) else if 0 < s.caps then (decide (x = 0), s1) else (false, s)) = (b, s2) ∧ Post 1 0 s s2 ∧ s2.caps = s.caps ∧
      ((4 < s.caps + 1 ∧ b = true ∧ s2 = s) ∨ (¬ 4 < s.caps + 1 ∧ 0 < s.caps ∧ x = 0 ∧ b = true ∧ s2 = s1) ∨ (¬ 4 < s.caps + 1 ∧ 0 < s.caps ∧ x ≠ 0 ∧ b = false ∧ s2 = s1) ∨ (¬ 4 < s.caps + 1 ∧ ¬ 0 < s.caps ∧ b = false ∧ s2 = s)) := by
    have p0 : Post 1 0 s s := ⟨by omega, by omega, qc⟩
    by_cases h1 : 4 < s.caps + 1
    · rw [if_pos h1]; exact ⟨_, _, rfl, p0, rfl, .inl ⟨h1, rfl, rfl⟩⟩
    · rw [if_neg h1]
      by_cases h2 : 0 < s.caps
      · rw [if_pos h2]
        by_cases h3 : x = 0
        · exact ⟨true, s1, by rw [decide_eq_true h3], p1, c1, .inr (.inl ⟨h1, h2, h3, rfl, rfl⟩)⟩
        · exact ⟨false, s1, by rw [decide_eq_false h3], p1, c1, .inr (.inr (.inl ⟨h1, h2, h3, rfl, rfl⟩))⟩
      · rw [if_neg h2]; exact ⟨_, _, rfl, p0, rfl, .inr (.inr (.inr ⟨h1, h2, rfl, rfl⟩))⟩
  rw [hps]
  clear hps
  simp only
  have hm1 : 0 < max 1 s2.caps := by omega
  have h97b := fun K => f97 l hl uses (max 1 s2.caps) (by omega) s2 ⟨by have := p2.a; omega, by have := p2.a; omega⟩ b0 K
  have p3 := p2.trans (nx_post l (max 1 s2.caps) s2 p2.c)
  have hv := nx_val l hm1 s2
  have c3 : (nx l (max 1 s2.caps) s2).2.caps = s2.caps := rfl
  generalize hY : nx l (max 1 s2.caps) s2 = Y at *
  obtain ⟨y, s3⟩ := Y
  clear hY
  simp only at h97b p3 hv c3 ⊢
  rw [c2] at h97b hv c3
  obtain ⟨m, s4, hms, p4, c4, hmb, hc2⟩ : ∃ (m : Int) (s4 : MS), (if b = true then (1 + y, s3) else (s.caps + 1, s2)) = (m, s4) ∧ Post 2 0 s s4 ∧ s4.caps = s.caps ∧ (0 ≤ m ∧ m ≤ 4) ∧ ((b = true ∧ m = 1 + y ∧ s4 = s3) ∨ (b = false ∧ m = s.caps + 1 ∧ s4 = s2)) := by
    cases b with
    | true => exact ⟨_, _, if_pos rfl, p3, c3, by omega, .inl ⟨rfl, rfl, rfl⟩⟩
    | false =>
      refine ⟨_, _, if_neg Bool.false_ne_true, p2.up (by omega) (by omega), c2, ?_, .inr ⟨rfl, rfl, rfl⟩⟩
      rcases hc with h | h | h | h <;> first | omega | (simp at h; done) | (simp at h; omega)
  rw [hms]
  clear hms
  simp only
  have hmx2 : (if m > s.caps then m else s.caps) = max s.caps m := by split <;> omega
  have hpre : Pre (mA1 d) (mS1 d) ⟨s4.at_, s4.left, max s.caps m⟩ := ⟨⟨by have := p4.a; simp only; omega, by have := p4.a; simp only; omega⟩, ⟨by have := p4.l; simp only; omega, by have := p4.l; simp only; omega⟩, by simp only; omega⟩
  have h44 := fun K => ht _ b0 K hpre
  rw [c4]
  generalize treeF l uses d ⟨s4.at_, s4.left, max s.caps m⟩ = Y at *
  obtain ⟨r, s5⟩ := Y
  simp only at h44 ⊢
  have fin : ∀ (M : List MB), (∃ L, M = K ++ L) → retPol pol1 101 (mH b0 l uses s K) (.agg [I 5, .sl true [], .sl true [reAV r], I 0, I 0, I 0, I m, .bool false]) (mH b0 l uses s5 M) = some (reAV (.mk 5 [] [r] 0 0 0 m false), mH b0 l uses s5 K) := fun M hM =>
    ret_node (by rfl) (by rfl) s s5 hM true true 5 [] [r] 0 0 0 m false
  refine call_run2 (pol := pol1) Try.func101 rfl rfl rfl rfl fr ?_
  rcases hc with ⟨g1, rfl, rfl⟩ | ⟨g1, g2, g3, rfl, rfl⟩ | ⟨g1, g2, g3, rfl, rfl⟩ | ⟨g1, g2, rfl, rfl⟩ <;> rcases hc2 with ⟨g4, rfl, rfl⟩ | ⟨g4, rfl, rfl⟩ <;> (try cases g4)
  · rw [show max 1 s2.caps = s2.caps by omega] at h97b
    simp +contextual (disch := omega) only [Try.f101, dd101, ty0, ty3, ty4, ty24, ty26, ty91, ty93, go_sem, ↓reduceIte, evAppend, List.reduceReplicate, Nat.reduceAdd, Nat.reduceSub, reduceCtorEq, Nat.reduceLeDiff, Nat.reduceMul, Nat.reduceLT, Nat.reduceEqDiff, Int.reduceBNe, Int.reduceBEq, Int.reduceEq, Int.reduceLT, Int.reduceLE, Int.reduceGT, Int.reduceGE, List.map_append, mu101, List.contains_nil, List.contains_cons, Nat.reduceBEq, Bool.or_self, dlt_t, dlt_f, dle_t, dle_f, dgt_t, dgt_f, dge_t, dge_f, beq_t, beq_f, bne_t, bne_f, lt_T, le_T, nle_T, nle_F, ↓wrap_up, ↓wrap_down, ↓wrap_pred, ↓wrap_sub_nat, i64_in, i64_quo, rem_in, Int.reduceToNat, room_ok, h97a, h97b, h44, hmx1, hmx2, c1, c2, c3, evMax, get_last, set_last, reC_len, reC_ok, reC_take, reC_drop, List.append_nil]
    repeat' (first | intro _ | apply And.intro | (unfold dOk; kernel_rfl) | exact St.beq_refl _ | (show altO _ _ _ _ = true; kernel_rfl) | (show (_ || _) = true; kernel_rfl) | (show (_ && _) = true; kernel_rfl))
    exact fin _ (ex1 ..)
  · simp +contextual (disch := omega) only [Try.f101, dd101, ty0, ty3, ty4, ty24, ty26, ty91, ty93, go_sem, ↓reduceIte, evAppend, List.reduceReplicate, Nat.reduceAdd, Nat.reduceSub, reduceCtorEq, Nat.reduceLeDiff, Nat.reduceMul, Nat.reduceLT, Nat.reduceEqDiff, Int.reduceBNe, Int.reduceBEq, Int.reduceEq, Int.reduceLT, Int.reduceLE, Int.reduceGT, Int.reduceGE, List.map_append, mu101, List.contains_nil, List.contains_cons, Nat.reduceBEq, Bool.or_self, dlt_t, dlt_f, dle_t, dle_f, dgt_t, dgt_f, dge_t, dge_f, beq_t, beq_f, bne_t, bne_f, lt_T, le_T, nle_T, nle_F, ↓wrap_up, ↓wrap_down, ↓wrap_pred, ↓wrap_sub_nat, i64_in, i64_quo, rem_in, Int.reduceToNat, room_ok, h97a, h97b, h44, hmx1, hmx2, c1, c2, c3, evMax, get_last, set_last, reC_len, reC_ok, reC_take, reC_drop, List.append_nil]
    repeat' (first | intro _ | apply And.intro | (unfold dOk; kernel_rfl) | exact St.beq_refl _ | (show altO _ _ _ _ = true; kernel_rfl) | (show (_ || _) = true; kernel_rfl) | (show (_ && _) = true; kernel_rfl))
    exact fin _ (ex1 ..)
  · first | rw [show max s.caps (s.caps + 1) = s.caps + 1 by omega] at h44 | rw [show max s2.caps (s2.caps + 1) = s2.caps + 1 by omega] at h44 | rw [show max s4.caps (s4.caps + 1) = s4.caps + 1 by omega] at h44
    simp +contextual (disch := omega) only [Try.f101, dd101, ty0, ty3, ty4, ty24, ty26, ty91, ty93, go_sem, ↓reduceIte, evAppend, List.reduceReplicate, Nat.reduceAdd, Nat.reduceSub, reduceCtorEq, Nat.reduceLeDiff, Nat.reduceMul, Nat.reduceLT, Nat.reduceEqDiff, Int.reduceBNe, Int.reduceBEq, Int.reduceEq, Int.reduceLT, Int.reduceLE, Int.reduceGT, Int.reduceGE, List.map_append, mu101, List.contains_nil, List.contains_cons, Nat.reduceBEq, Bool.or_self, dlt_t, dlt_f, dle_t, dle_f, dgt_t, dgt_f, dge_t, dge_f, beq_t, beq_f, bne_t, bne_f, lt_T, le_T, nle_T, nle_F, ↓wrap_up, ↓wrap_down, ↓wrap_pred, ↓wrap_sub_nat, i64_in, i64_quo, rem_in, Int.reduceToNat, room_ok, h97a, h97b, h44, hmx1, hmx2, c1, c2, c3, evMax, get_last, set_last, reC_len, reC_ok, reC_take, reC_drop, List.append_nil]
    repeat' (first | intro _ | apply And.intro | (unfold dOk; kernel_rfl) | exact St.beq_refl _ | (show altO _ _ _ _ = true; kernel_rfl) | (show (_ || _) = true; kernel_rfl) | (show (_ && _) = true; kernel_rfl))
    exact fin _ (ex1 ..)
  · first | rw [show max s.caps (s.caps + 1) = s.caps + 1 by omega] at h44 | rw [show max s2.caps (s2.caps + 1) = s2.caps + 1 by omega] at h44 | rw [show max s4.caps (s4.caps + 1) = s4.caps + 1 by omega] at h44
    simp +contextual (disch := omega) only [Try.f101, dd101, ty0, ty3, ty4, ty24, ty26, ty91, ty93, go_sem, ↓reduceIte, evAppend, List.reduceReplicate, Nat.reduceAdd, Nat.reduceSub, reduceCtorEq, Nat.reduceLeDiff, Nat.reduceMul, Nat.reduceLT, Nat.reduceEqDiff, Int.reduceBNe, Int.reduceBEq, Int.reduceEq, Int.reduceLT, Int.reduceLE, Int.reduceGT, Int.reduceGE, List.map_append, mu101, List.contains_nil, List.contains_cons, Nat.reduceBEq, Bool.or_self, dlt_t, dlt_f, dle_t, dle_f, dgt_t, dgt_f, dge_t, dge_f, beq_t, beq_f, bne_t, bne_f, lt_T, le_T, nle_T, nle_F, ↓wrap_up, ↓wrap_down, ↓wrap_pred, ↓wrap_sub_nat, i64_in, i64_quo, rem_in, Int.reduceToNat, room_ok, h97a, h97b, h44, hmx1, hmx2, c1, c2, c3, evMax, get_last, set_last, reC_len, reC_ok, reC_take, reC_drop, List.append_nil]
    repeat' (first | intro _ | apply And.intro | (unfold dOk; kernel_rfl) | exact St.beq_refl _ | (show altO _ _ _ _ = true; kernel_rfl) | (show (_ || _) = true; kernel_rfl) | (show (_ && _) = true; kernel_rfl))
    exact fin _ (ex1 ..)
end
end
end Go.Ev
