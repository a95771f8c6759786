/- Functions of the program, each with what it computes; no further conditions. -/
import Derived.Test.YtpbobopcmhpbbaaM05
import Derived.Test.YtpbobopcmhpbbaaM21
import Derived.Test.YtpbobopcmhpbbaaM20
import Derived.Test.YtpbobopcmhpbbaaM19
import Derived.Test.YtpbobopcmhpbbaaM15
set_option linter.unusedVariables false
set_option linter.unusedSimpArgs false
namespace Go.Ev
attribute [local go_sem] eq_self bindW_some bindW_map bindW_ite bindW_iteN W_seq W_region W_draw W_cond W_condK W_ret W_skip W_exit W_scope W_label W_block blockK_norm blockK_ret blockK_exit WO_nil WO_cons WO_guard WD_nil WD_cons WD_guard guardV guardW_boolT guardW_boolF guardW_tup fpL_some fpL_none footprint thenK_norm thenK_ret thenK_exit put_some put_none ev_tmp ev_con ev_func ofK_int ofK_bool ofK_str ofK_nil evOp evBuiltin evCall evLen getElem_16 getElem_4 List.length_cons List.length_nil List.cons_append List.nil_append List.append_nil if_false if_true Bool.false_eq_true Bool.true_eq_false Option.map_some Option.map_none List.map_cons List.map_nil evBinOp evBin evUn asB_bool splitB_decide splitB_true splitB_false splitB_beq splitB_bne splitB_not endK_ret endK_norm List.getElem?_cons_zero List.getElem?_cons_succ evResults evResult packRes retK_norm retK_ret cellsAt mkVal evFieldAddr evField evIndexAddr evPart evStore evBuild evBuildSlice fillC fillE evSlice evMakeSlice evConvert getRow List.head?_cons List.drop_zero List.drop_succ_cons List.take_zero List.take_succ_cons List.drop_nil List.take_nil List.all_cons List.all_nil AV.ok Bool.and_self Bool.and_true Bool.true_and and_self and_true true_and Nat.zero_add Nat.add_zero setCells splice pairsOk pairsX altW_none altW_some cfg_al WI_nil WI_cons FP.apart heapEq_refl sameAt_refl Bool.or_true Bool.true_or Bool.or_false srcElems elemsOf mutDst roundK_norm roundK_exit roundK_ret List.length_map List.getElem?_map Int.toNat_natCast decide_true decide_false Bool.not_true Bool.not_false List.set set_0 set_1 set_2 set_3 set_4 look_hit look lookD_hit lookD_cons lookD_nil ins_hit ins upd_hit upd rem1_hit rem1 dropT dropSt_eq initT cfg_dd cfg_bd cfg_ra actL_nil actL_cons act1 updT_hit updT frzB retE_norm retE_ret bndO bnd evEq eqCells not_false_eq_true not_true_eq_false toList_some Array.size_empty List.length_append endE_norm endE_ret head_take1
section
attribute [local go_sem] tySzE List.head?_drop Nat.mul_one sameAt_zero sameAt_two sameAt_three sameAt_four sameAt_five
open Go.Proofs Go.RowKit Go.IntWalk
set_option maxRecDepth 100000
set_option linter.unusedSimpArgs false
set_option linter.unusedVariables false
set_option maxHeartbeats 8000000

abbrev zeroRe : Re := .mk 0 [] [] 0 0 0 0 false
/-- The part at a way's end, and the error. -/
def atG : List Int → Re → Re × Int
  | [], r => (r, 0)
  | i :: p, .mk op set kids mn mx md n neg => if i < 0 ∨ (kids.length : Int) ≤ i then (zeroRe, 7) else match kids[i.toNat]? with
    | some k => atG p k
    | none => (zeroRe, 7)
/-- The tree with another part at a way's end. -/
def putG : List Int → Re → Re → Re × Int
  | [], r, part => (part, 0)
  | i :: p, .mk op set kids mn mx md n neg, part => if i < 0 ∨ (kids.length : Int) ≤ i then (zeroRe, 7) else match kids[i.toNat]? with
    | some k => if (putG p k part).2 = 0 then (.mk op set (kids.set i.toNat (putG p k part).1) mn mx md n neg, 0) else (zeroRe, (putG p k part).2)
    | none => (zeroRe, 7)
theorem atG_wt : ∀ (p : List Int) (r : Re), (atG p r).1.wt ≤ r.wt
  | [], r => Nat.le_refl _
  | i :: p, .mk op set kids mn mx md n neg => by
    have hz : zeroRe.wt ≤ 1 := by simp [Re.wt, Re.wtL]
    have hpos := (Re.mk op set kids mn mx md n neg).wt_pos
    unfold atG
    split
    · simp only; omega
    · split
      · rename_i k hk
        have h1 := atG_wt p k
        have h2 := Re.wtL_mem (List.mem_of_getElem? hk)
        simp only [Re.wt]; omega
      · simp only; omega
theorem wtL_set : ∀ (l : List Re) (i : Nat) (k x : Re), l[i]? = some k → Re.wtL (l.set i x) + k.wt = Re.wtL l + x.wt
  | [], i, k, x, h => by simp at h
  | a :: ks, 0, k, x, h => by
    simp at h; subst h
    simp [Re.wtL]; omega
  | a :: ks, i + 1, k, x, h => by
    have := wtL_set ks i k x (by simpa using h)
    simp [Re.wtL]; omega
theorem putG_wt : ∀ (p : List Int) (r part : Re), (putG p r part).1.wt ≤ r.wt + part.wt
  | [], r, part => by simp [putG]
  | i :: p, .mk op set kids mn mx md n neg, part => by
    have hz : zeroRe.wt ≤ 1 := by simp [Re.wt, Re.wtL]
    have hpos := (Re.mk op set kids mn mx md n neg).wt_pos
    unfold putG
    split
    · simp only; omega
    · split
      · rename_i k hk
        have h1 := putG_wt p k part
        have h2 := Re.wtL_mem (List.mem_of_getElem? hk)
        have h3 := wtL_set kids i.toNat k (putG p k part).1 hk
        split
        · simp only [Re.wt]; omega
        · simp only; omega
      · simp only; omega
section
variable (cs : List AV) (k : IntKind) (n : Int) (b : Bool) (xs : List AV) (a c d e f : Nat)
theorem cells_agg : (AV.agg cs).cells = cs := rfl
theorem cells_int : (AV.int k n).cells = [.int k n] := rfl
theorem cells_bool : (AV.bool b).cells = [.bool b] := rfl
theorem cells_sl : (AV.sl b xs).cells = [.sl b xs] := rfl
theorem cells_ms : (AV.ms a c d e f).cells = [.ms a c d e f] := rfl
theorem cells_rf : (AV.rf a c d e).cells = [.rf a c d e] := rfl
theorem cells_pt : (AV.pt xs).cells = [.pt xs] := rfl
end
theorem all8 (l : List Re) : ((l.map reAV).all fun y => decide (y.cells.length = 8)) = true := by
  rw [List.all_eq_true]
  intro x hx
  obtain ⟨r, _, rfl⟩ := List.mem_map.1 hx
  simp [AV.cells, reC_len]
theorem all1 (l : List Int) : ((l.map I).all fun y => decide (y.cells.length = 1)) = true := by
  rw [List.all_eq_true]
  intro x hx
  obtain ⟨r, _, rfl⟩ := List.mem_map.1 hx
  rfl
theorem atG_cons (i : Int) (p : List Int) (op : Int) (set : List (Int × Int)) (kids : List Re) (mn mx md n : Int) (neg : Bool) : atG (i :: p) (.mk op set kids mn mx md n neg) =
    if i < 0 ∨ (kids.length : Int) ≤ i then (zeroRe, 7) else match kids[i.toNat]? with
    | some k => atG p k
    | none => (zeroRe, 7) := by rw [atG]
theorem atG_nil (r : Re) : atG [] r = (r, 0) := by rw [atG]
theorem putG_cons (i : Int) (p : List Int) (op : Int) (set : List (Int × Int)) (kids : List Re) (mn mx md n : Int) (neg : Bool) (part : Re) : putG (i :: p) (.mk op set kids mn mx md n neg) part =
    if i < 0 ∨ (kids.length : Int) ≤ i then (zeroRe, 7) else match kids[i.toNat]? with
    | some k => if (putG p k part).2 = 0 then (.mk op set (kids.set i.toNat (putG p k part).1) mn mx md n neg, 0) else (zeroRe, (putG p k part).2)
    | none => (zeroRe, 7) := by rw [putG]
theorem putG_nil (r part : Re) : putG [] r part = (part, 0) := by rw [putG]
theorem f46 : ∀ (p : List Int) (r : Re), p.length ≤ 1000000 → r.wt ≤ 1000000 → ∀ H, call Try.prog pol1 46 [reAV r, pathAV p] H = some (.tup [reAV (atG p r).1, I (atG p r).2], H)
  | [], .mk op set kids mn mx md n neg, hp, hN => by
    intro H
    rw [show reAV (.mk op set kids mn mx md n neg) = .agg (nodeL op set kids mn mx md n neg) from congrArg AV.agg reC_mk]
    refine call_run Try.func46 rfl rfl rfl rfl rfl rfl (fun _ => rfl) (by simp [AV.plain, AV.plainL, plain_span, plain_kids]) (by simp [AV.plain, AV.plainL, plain_reC]) ?_ H
    rw [atG_nil]
    simp +contextual (disch := omega) only [Try.f46, dd46, ty0, ty3, ty4, ty22, ty24, ty26, ty36, ty68, go_sem, ↓reduceIte, evAppend, List.reduceReplicate, Nat.reduceAdd, Nat.reduceSub, reduceCtorEq, AV.cells, Nat.reduceLeDiff, Nat.reduceMul, Nat.reduceLT, Nat.reduceEqDiff, Int.reduceBNe, Int.reduceBEq, Int.reduceEq, Int.reduceLT, Int.reduceLE, Int.reduceGT, Int.reduceGE, List.map_append, mu46, List.contains_nil, List.contains_cons, Nat.reduceBEq, Bool.or_self, dlt_t, dlt_f, dle_t, dle_f, dgt_t, dgt_f, dge_t, dge_f, beq_t, beq_f, bne_t, bne_f, lt_T, le_T, nle_T, nle_F, ↓wrap_up, ↓wrap_down, ↓wrap_pred, ↓wrap_sub_nat, i64_in, i64_quo, rem_in, Int.reduceToNat, room_ok]
    rw [show reAV (.mk op set kids mn mx md n neg) = .agg (nodeL op set kids mn mx md n neg) from congrArg AV.agg reC_mk]
    exact ⟨_, fz_plain _ (by simp [AV.plain, AV.plainL, plain_span, plain_kids])⟩
  | i :: p, .mk op set kids mn mx md n neg, hp, hN => by
    intro H
    have hwt : 1 + set.length + Re.wtL kids = (Re.mk op set kids mn mx md n neg).wt := by simp [Re.wt]
    have hkl := Re.wtL_len kids
    have ih := fun k (hk : k ∈ kids) => f46 p k (by have := hp; rw [List.length_cons] at this; omega) (by have := Re.wtL_mem hk; omega)
    rw [show reAV (.mk op set kids mn mx md n neg) = .agg (nodeL op set kids mn mx md n neg) from congrArg AV.agg reC_mk]
    refine call_run Try.func46 rfl rfl rfl rfl rfl rfl (fun _ => rfl) (by simp [AV.plain, AV.plainL, plain_span, plain_kids, plain_ints]) (by simp [AV.plain, AV.plainL, plain_reC]) ?_ H
    have ha1 := all1 (i :: p)
    rw [atG_cons]
    simp only [List.length_cons] at hp
    by_cases h0 : i < 0
    · rw [if_pos (.inl h0)]
      simp +contextual (disch := omega) only [Try.f46, dd46, ty0, ty3, ty4, ty22, ty24, ty26, ty36, ty68, go_sem, ↓reduceIte, evAppend, List.reduceReplicate, Nat.reduceAdd, Nat.reduceSub, reduceCtorEq, AV.cells, Nat.reduceLeDiff, Nat.reduceMul, Nat.reduceLT, Nat.reduceEqDiff, Int.reduceBNe, Int.reduceBEq, Int.reduceEq, Int.reduceLT, Int.reduceLE, Int.reduceGT, Int.reduceGE, List.map_append, mu46, List.contains_nil, List.contains_cons, Nat.reduceBEq, Bool.or_self, dlt_t, dlt_f, dle_t, dle_f, dgt_t, dgt_f, dge_t, dge_f, beq_t, beq_f, bne_t, bne_f, lt_T, le_T, nle_T, nle_F, ↓wrap_up, ↓wrap_down, ↓wrap_pred, ↓wrap_sub_nat, i64_in, i64_quo, rem_in, Int.reduceToNat, room_ok]
      repeat' (first | intro _ | apply And.intro | (unfold dOk; kernel_rfl) | exact St.beq_refl _ | (show altO _ _ _ _ = true; kernel_rfl) | (show (_ || _) = true; kernel_rfl) | (show (_ && _) = true; kernel_rfl))
      exact ⟨_, rfl⟩
    · obtain ⟨j, rfl⟩ : ∃ j : Nat, i = j := ⟨i.toNat, by omega⟩
      by_cases h1 : kids.length ≤ j
      · rw [if_pos (.inr (by omega))]
        simp +contextual (disch := omega) only [Try.f46, dd46, ty0, ty3, ty4, ty22, ty24, ty26, ty36, ty68, go_sem, ↓reduceIte, evAppend, List.reduceReplicate, Nat.reduceAdd, Nat.reduceSub, reduceCtorEq, AV.cells, Nat.reduceLeDiff, Nat.reduceMul, Nat.reduceLT, Nat.reduceEqDiff, Int.reduceBNe, Int.reduceBEq, Int.reduceEq, Int.reduceLT, Int.reduceLE, Int.reduceGT, Int.reduceGE, List.map_append, mu46, List.contains_nil, List.contains_cons, Nat.reduceBEq, Bool.or_self, dlt_t, dlt_f, dle_t, dle_f, dgt_t, dgt_f, dge_t, dge_f, beq_t, beq_f, bne_t, bne_f, lt_T, le_T, nle_T, nle_F, ↓wrap_up, ↓wrap_down, ↓wrap_pred, ↓wrap_sub_nat, i64_in, i64_quo, rem_in, Int.reduceToNat, room_ok]
        repeat' (first | intro _ | apply And.intro | (unfold dOk; kernel_rfl) | exact St.beq_refl _ | (show altO _ _ _ _ = true; kernel_rfl) | (show (_ || _) = true; kernel_rfl) | (show (_ && _) = true; kernel_rfl))
        exact ⟨_, rfl⟩
      · rw [if_neg (by omega), Int.toNat_natCast]
        obtain ⟨k, hk⟩ : ∃ k, kids[j]? = some k := ⟨_, List.getElem?_eq_getElem (by omega)⟩
        have ihk := ih k (List.mem_of_getElem? hk)
        have hl8 := reC_len k
        have ht8 := reC_take k
        rw [hk]
        simp only
        generalize atG p k = X at *
        obtain ⟨x, e⟩ := X
        have htk : List.take p.length (p.map I) = p.map I := List.take_of_length_le (by simp)
        simp +contextual (disch := omega) only [Try.f46, dd46, ty0, ty3, ty4, ty22, ty24, ty26, ty36, ty68, go_sem, ↓reduceIte, evAppend, List.reduceReplicate, Nat.reduceAdd, Nat.reduceSub, reduceCtorEq, Nat.reduceLeDiff, Nat.reduceMul, Nat.reduceLT, Nat.reduceEqDiff, Int.reduceBNe, Int.reduceBEq, Int.reduceEq, Int.reduceLT, Int.reduceLE, Int.reduceGT, Int.reduceGE, List.map_append, mu46, List.contains_nil, List.contains_cons, Nat.reduceBEq, Bool.or_self, dlt_t, dlt_f, dle_t, dle_f, dgt_t, dgt_f, dge_t, dge_f, beq_t, beq_f, bne_t, bne_f, lt_T, le_T, nle_T, nle_F, ↓wrap_up, ↓wrap_down, ↓wrap_pred, ↓wrap_sub_nat, i64_in, i64_quo, rem_in, Int.reduceToNat, room_ok, hk, hl8, ht8, ihk, all1 p, htk, cells_agg, cells_int, cells_bool, cells_sl, cells_ms, cells_rf, cells_pt, reC_len, reC_ok, reC_take, reC_drop]
        repeat' (first | intro _ | apply And.intro | (unfold dOk; kernel_rfl) | exact St.beq_refl _ | (show altO _ _ _ _ = true; kernel_rfl) | (show (_ || _) = true; kernel_rfl) | (show (_ && _) = true; kernel_rfl))
        exact ⟨_, fz_plain _ (by simp [AV.plain, AV.plainL, plain_reC])⟩

theorem app_res {H : List MB} {i n z : Nat} {els : List AV} {q : List Re} {t : Bool} (hi : getRow H i = some (8, els, z)) (hn : els.length = n) (hz : z ≤ n) (hr : n + q.length ≤ 4000000000) :
    evAppend Try.prog H 24 24 (.ms i 8 n 0 n) (.sl t (q.map reAV)) = some (.ms i 8 (n + q.length) 0 (n + q.length), H.set i (.row 8 (els ++ q.map reAV) z)) := by
  have hs : srcElems Try.prog H 26 (.sl t (q.map reAV)) = some (q.map reAV) := rfl
  have hall : ((q.map reAV).all fun y => decide (y.cells.length = 8) && y.cells.all AV.ok) = true := by
    rw [List.all_eq_true]
    intro x hx
    obtain ⟨y, _, rfl⟩ := List.mem_map.1 hx
    simp [AV.cells, reC_len, reC_ok]
  rw [evAppend_end (e := 26) (by kernel_rfl) (by kernel_rfl) (k := 8) (by kernel_rfl) (by_ := 96) (by kernel_rfl) (ze := .agg [I 0, .sl true [], .sl true [], I 0, I 0, I 0, I 0, .bool false]) (by kernel_rfl) rfl (by omega) hs hall hi hn hz (room_ok (by rw [List.length_map]; exact hr) (by omega)), List.length_map]
theorem fz_put (op : Int) (set : List (Int × Int)) (ks : List Re) (mn mx md n : Int) (neg : Bool) {m : Nat} (hm : ks.length = m) {H : List MB} (hr : getRow H 4 = some (8, ks.map reAV, 0)) :
    ∃ H', fz (.tup [.agg [I op, .sl false (set.map spanAV), .ms 4 8 m 0 m, I mn, I mx, I md, I n, .bool neg], I 0]) H = some (.tup [reAV (.mk op set ks mn mx md n neg), I 0], H') := by
  have h2 : fzA (fzJ 6) (.ms 4 8 m 0 m) H = some (.sl false (ks.map reAV), mark H 4 m) := fzA_row (n := 5) hr (by rw [List.length_map]; exact hm) (plain_kids ks)
  refine ⟨mark H 4 m, ?_⟩
  rw [show reAV (.mk op set ks mn mx md n neg) = .agg (nodeL op set ks mn mx md n neg) from congrArg AV.agg reC_mk]
  simp only [fz, fzA_tup, fzA_agg, fzL, fzA_slp _ _ _ (plain_span set), h2, fzA_int]
  rfl
theorem f47 : ∀ (p : List Int) (r part : Re), p.length ≤ 1000000 → r.wt ≤ 1000000 → ∀ H, call Try.prog pol1 47 [reAV r, pathAV p, reAV part] H = some (.tup [reAV (putG p r part).1, I (putG p r part).2], H) := by
  intro p
  induction p with
  | nil =>
    intro r part hp hN H
    obtain ⟨op, set, kids, mn, mx, md, n, neg⟩ := r
    rw [show reAV (.mk op set kids mn mx md n neg) = .agg (nodeL op set kids mn mx md n neg) from congrArg AV.agg reC_mk]
    refine call_run Try.func47 rfl rfl rfl rfl rfl rfl (fun _ => rfl) (by simp [AV.plain, AV.plainL, plain_span, plain_kids, plain_reC]) (by simp [AV.plain, AV.plainL, plain_reC]) ?_ H
    rw [putG_nil]
    simp +contextual (disch := omega) only [Try.f47, dd47, ty0, ty3, ty4, ty22, ty24, ty26, ty36, ty68, go_sem, ↓reduceIte, evAppend, List.reduceReplicate, Nat.reduceAdd, Nat.reduceSub, reduceCtorEq, AV.cells, Nat.reduceLeDiff, Nat.reduceMul, Nat.reduceLT, Nat.reduceEqDiff, Int.reduceBNe, Int.reduceBEq, Int.reduceEq, Int.reduceLT, Int.reduceLE, Int.reduceGT, Int.reduceGE, List.map_append, mu47, List.contains_nil, List.contains_cons, Nat.reduceBEq, Bool.or_self, dlt_t, dlt_f, dle_t, dle_f, dgt_t, dgt_f, dge_t, dge_f, beq_t, beq_f, bne_t, bne_f, lt_T, le_T, nle_T, nle_F, ↓wrap_up, ↓wrap_down, ↓wrap_pred, ↓wrap_sub_nat, i64_in, i64_quo, rem_in, Int.reduceToNat, room_ok, reC_len, reC_ok, reC_take, reC_drop, List.append_nil]
    exact ⟨_, fz_plain _ (by simp [AV.plain, AV.plainL, plain_reC])⟩
  | cons i p ihp =>
    intro r part hp hN H
    obtain ⟨op, set, kids, mn, mx, md, n, neg⟩ := r
    have hwt : 1 + set.length + Re.wtL kids = (Re.mk op set kids mn mx md n neg).wt := by simp [Re.wt]
    have hkl := Re.wtL_len kids
    have ih := fun k (hk : k ∈ kids) => ihp k part (by have := hp; rw [List.length_cons] at this; omega) (by have := Re.wtL_mem hk; omega)
    rw [show reAV (.mk op set kids mn mx md n neg) = .agg (nodeL op set kids mn mx md n neg) from congrArg AV.agg reC_mk]
    refine call_run Try.func47 rfl rfl rfl rfl rfl rfl (fun _ => rfl) (by simp [AV.plain, AV.plainL, plain_span, plain_kids, plain_ints, plain_reC]) (by simp [AV.plain, AV.plainL, plain_reC]) ?_ H
    rw [putG_cons]
    simp only [List.length_cons] at hp
    by_cases h0 : i < 0
    · rw [if_pos (.inl h0)]
      simp +contextual (disch := omega) only [Try.f47, dd47, ty0, ty3, ty4, ty22, ty24, ty26, ty36, ty68, go_sem, ↓reduceIte, evAppend, List.reduceReplicate, Nat.reduceAdd, Nat.reduceSub, reduceCtorEq, AV.cells, Nat.reduceLeDiff, Nat.reduceMul, Nat.reduceLT, Nat.reduceEqDiff, Int.reduceBNe, Int.reduceBEq, Int.reduceEq, Int.reduceLT, Int.reduceLE, Int.reduceGT, Int.reduceGE, List.map_append, mu47, List.contains_nil, List.contains_cons, Nat.reduceBEq, Bool.or_self, dlt_t, dlt_f, dle_t, dle_f, dgt_t, dgt_f, dge_t, dge_f, beq_t, beq_f, bne_t, bne_f, lt_T, le_T, nle_T, nle_F, ↓wrap_up, ↓wrap_down, ↓wrap_pred, ↓wrap_sub_nat, i64_in, i64_quo, rem_in, Int.reduceToNat, room_ok, reC_len, reC_ok, reC_take, reC_drop, List.append_nil]
      repeat' (first | intro _ | apply And.intro | (unfold dOk; kernel_rfl) | exact St.beq_refl _ | (show altO _ _ _ _ = true; kernel_rfl) | (show (_ || _) = true; kernel_rfl) | (show (_ && _) = true; kernel_rfl))
      exact ⟨_, rfl⟩
    · obtain ⟨j, rfl⟩ : ∃ j : Nat, i = j := ⟨i.toNat, by omega⟩
      by_cases h1 : kids.length ≤ j
      · rw [if_pos (.inr (by omega))]
        simp +contextual (disch := omega) only [Try.f47, dd47, ty0, ty3, ty4, ty22, ty24, ty26, ty36, ty68, go_sem, ↓reduceIte, evAppend, List.reduceReplicate, Nat.reduceAdd, Nat.reduceSub, reduceCtorEq, AV.cells, Nat.reduceLeDiff, Nat.reduceMul, Nat.reduceLT, Nat.reduceEqDiff, Int.reduceBNe, Int.reduceBEq, Int.reduceEq, Int.reduceLT, Int.reduceLE, Int.reduceGT, Int.reduceGE, List.map_append, mu47, List.contains_nil, List.contains_cons, Nat.reduceBEq, Bool.or_self, dlt_t, dlt_f, dle_t, dle_f, dgt_t, dgt_f, dge_t, dge_f, beq_t, beq_f, bne_t, bne_f, lt_T, le_T, nle_T, nle_F, ↓wrap_up, ↓wrap_down, ↓wrap_pred, ↓wrap_sub_nat, i64_in, i64_quo, rem_in, Int.reduceToNat, room_ok, reC_len, reC_ok, reC_take, reC_drop, List.append_nil]
        repeat' (first | intro _ | apply And.intro | (unfold dOk; kernel_rfl) | exact St.beq_refl _ | (show altO _ _ _ _ = true; kernel_rfl) | (show (_ || _) = true; kernel_rfl) | (show (_ && _) = true; kernel_rfl))
        exact ⟨_, rfl⟩
      · rw [if_neg (by omega), Int.toNat_natCast]
        have hj : j < kids.length := by omega
        obtain ⟨k, hk⟩ : ∃ k, kids[j]? = some k := ⟨_, List.getElem?_eq_getElem hj⟩
        have ihk := ih k (List.mem_of_getElem? hk)
        have hl8 := reC_len k
        have ht8 := reC_take k
        rw [hk]
        simp only
        generalize putG p k part = X at *
        obtain ⟨x, e⟩ := X
        simp only at ihk ⊢
        have htk : List.take p.length (p.map I) = p.map I := List.take_of_length_le (by simp)
        by_cases he : e = 0
        · subst he
          rw [if_pos rfl]
          have hs1 : List.take j (kids.map reAV) = (kids.take j).map reAV := by simp
          have hs2 : List.drop (j + 1) (List.take kids.length (kids.map reAV)) = (kids.drop (j + 1)).map reAV := by
            rw [List.take_of_length_le (by simp), List.map_drop]
          have htl : (kids.take j).length = j := by simp; omega
          have hdl : (kids.drop (j + 1)).length = kids.length - (j + 1) := by simp
          have hap1 := fun b0 b1 b2 b3 => app_res (H := [b0, b1, b2, b3, .row 8 [] 0]) (i := 4) (n := 0) (z := 0) (els := []) (q := kids.take j) (t := false) rfl rfl (by omega) (by omega)
          have hap2 := fun b0 b1 b2 b3 => app_re (H := [b0, b1, b2, b3, .row 8 ((kids.take j).map reAV) 0]) (i := 4) (n := j) (z := 0) (els := (kids.take j).map reAV) (y := reAV x) (t := true) rfl (by rw [List.length_map]; exact htl) (by simp [AV.cells, reC_len, reC_ok]) (by omega) (by omega)
          have hap3 := fun b0 b1 b2 b3 => app_res (H := [b0, b1, b2, b3, .row 8 ((kids.take j).map reAV ++ [reAV x]) 0]) (i := 4) (n := j + 1) (z := 0) (els := (kids.take j).map reAV ++ [reAV x]) (q := kids.drop (j + 1)) (t := false) rfl (by rw [List.length_append, List.length_map, htl]; rfl) (by omega) (by omega)
          rw [htl, Nat.zero_add] at hap1
          rw [hdl] at hap3
          simp +contextual (disch := omega) only [Try.f47, dd47, ty0, ty3, ty4, ty22, ty24, ty26, ty36, ty68, go_sem, ↓reduceIte, List.reduceReplicate, Nat.reduceAdd, Nat.reduceSub, reduceCtorEq, Nat.reduceLeDiff, Nat.reduceMul, Nat.reduceLT, Nat.reduceEqDiff, Int.reduceBNe, Int.reduceBEq, Int.reduceEq, Int.reduceLT, Int.reduceLE, Int.reduceGT, Int.reduceGE, mu47, List.contains_nil, List.contains_cons, Nat.reduceBEq, Bool.or_self, dlt_t, dlt_f, dle_t, dle_f, dgt_t, dgt_f, dge_t, dge_f, beq_t, beq_f, bne_t, bne_f, lt_T, le_T, nle_T, nle_F, ↓wrap_up, ↓wrap_down, ↓wrap_pred, ↓wrap_sub_nat, i64_in, i64_quo, rem_in, Int.reduceToNat, room_ok, hk, hl8, ht8, ihk, all1 p, all8 kids, htk, hs1, hs2, hap1, hap2, hap3, cells_agg, cells_int, cells_bool, cells_sl, cells_ms, cells_rf, cells_pt, reC_len, reC_ok, reC_take, reC_drop, Bool.false_and]
          repeat' (first | intro _ | apply And.intro | (unfold dOk; kernel_rfl) | exact St.beq_refl _ | (show altO _ _ _ _ = true; kernel_rfl) | (show (_ || _) = true; kernel_rfl) | (show (_ && _) = true; kernel_rfl))
          have hset : (kids.take j).map reAV ++ [reAV x] ++ (kids.drop (j + 1)).map reAV = (kids.set j x).map reAV := by
            rw [List.set_eq_take_append_cons_drop, if_pos hj]; simp
          have hsl : (kids.set j x).length = j + 1 + (kids.length - (j + 1)) := by simp; omega
          rw [hset]
          exact fz_put op set (kids.set j x) mn mx md n neg hsl rfl
        · rw [if_neg he]
          simp +contextual (disch := omega) only [Try.f47, dd47, ty0, ty3, ty4, ty22, ty24, ty26, ty36, ty68, go_sem, ↓reduceIte, evAppend, List.reduceReplicate, Nat.reduceAdd, Nat.reduceSub, reduceCtorEq, Nat.reduceLeDiff, Nat.reduceMul, Nat.reduceLT, Nat.reduceEqDiff, Int.reduceBNe, Int.reduceBEq, Int.reduceEq, Int.reduceLT, Int.reduceLE, Int.reduceGT, Int.reduceGE, List.map_append, mu47, List.contains_nil, List.contains_cons, Nat.reduceBEq, Bool.or_self, dlt_t, dlt_f, dle_t, dle_f, dgt_t, dgt_f, dge_t, dge_f, beq_t, beq_f, bne_t, bne_f, lt_T, le_T, nle_T, nle_F, ↓wrap_up, ↓wrap_down, ↓wrap_pred, ↓wrap_sub_nat, i64_in, i64_quo, rem_in, Int.reduceToNat, room_ok, hk, hl8, ht8, ihk, he, all1 p, htk, cells_agg, cells_int, cells_bool, cells_sl, cells_ms, cells_rf, cells_pt, reC_len, reC_ok, reC_take, reC_drop]
          repeat' (first | intro _ | apply And.intro | (unfold dOk; kernel_rfl) | exact St.beq_refl _ | (show altO _ _ _ _ = true; kernel_rfl) | (show (_ || _) = true; kernel_rfl) | (show (_ && _) = true; kernel_rfl))
          exact ⟨_, rfl⟩
end
section
attribute [local go_sem] evAppend AV.cells List.map_append
open Go.Proofs Go.RowKit Go.IntWalk
set_option maxRecDepth 100000
set_option linter.unusedSimpArgs false
set_option linter.unusedVariables false
set_option maxHeartbeats 4000000



theorem fzL_append {j : List AV → List MB → Option (List AV × List MB)} (ys : List AV) : ∀ (xs : List AV) (H : List MB), fzL j (xs ++ ys) H = (match fzL j xs H with
    | some (a, H1) => (match fzL j ys H1 with
      | some (b, H2) => some (a ++ b, H2)
      | none => none)
    | none => none)
  | [], H => by
    simp only [List.nil_append, fzL]
    cases fzL j ys H with
    | none => rfl
    | some q => rfl
  | x :: xs, H => by
    simp only [List.cons_append, fzL]
    cases fzA j x H with
    | none => rfl
    | some q =>
      simp only [fzL_append ys xs q.2]
      cases fzL j xs q.2 with
      | none => rfl
      | some q2 =>
        simp only []
        cases fzL j ys q2.2 with
        | none => rfl
        | some q3 => rfl

end
section
attribute [local go_sem] tySzE List.head?_drop Nat.mul_one sameAt_zero sameAt_two sameAt_three sameAt_four sameAt_five
open Go.Proofs Go.RowKit Go.IntWalk
set_option maxRecDepth 100000
set_option linter.unusedSimpArgs false
set_option linter.unusedVariables false
set_option maxHeartbeats 8000000

theorem app_spans {H : List MB} {i n z : Nat} {els : List AV} {q : List (Int × Int)} {t : Bool} (hi : getRow H i = some (2, els, z)) (hn : els.length = n) (hz : z ≤ n) (hr : n + q.length ≤ 4000000000) :
    evAppend Try.prog H 23 23 (.ms i 2 n 0 n) (.sl t (q.map spanAV)) = some (.ms i 2 (n + q.length) 0 (n + q.length), H.set i (.row 2 (els ++ q.map spanAV) z)) := by
  have hs : srcElems Try.prog H 86 (.sl t (q.map spanAV)) = some (q.map spanAV) := rfl
  have hall : ((q.map spanAV).all fun y => decide (y.cells.length = 2) && y.cells.all AV.ok) = true := by
    rw [List.all_eq_true]
    intro x hx
    obtain ⟨y, _, rfl⟩ := List.mem_map.1 hx
    rfl
  rw [evAppend_end (e := 86) (by kernel_rfl) (by kernel_rfl) (k := 2) (by kernel_rfl) (by_ := 16) (by kernel_rfl) (ze := .agg [I 0, I 0]) (by kernel_rfl) rfl (by omega) hs hall hi hn hz (room_ok (by rw [List.length_map]; exact hr) (by omega)), List.length_map]
theorem get6' (a b c d e f : Int) {j : Nat} (h : j < 6) : ∃ v, ([I a, I b, I c, I d, I e, I f] : List AV)[j]? = some (I v) := by
  rcases j with _ | _ | _ | _ | _ | _ | j
  all_goals first | exact ⟨_, rfl⟩ | omega
theorem get5' (a b c d e : Int) {j : Nat} (h : j < 5) : ∃ v, ([I a, I b, I c, I d, I e] : List AV)[j]? = some (I v) := by
  rcases j with _ | _ | _ | _ | _ | j
  all_goals first | exact ⟨_, rfl⟩ | omega
theorem get4' (a b c d : Int) {j : Nat} (h : j < 4) : ∃ v, ([I a, I b, I c, I d] : List AV)[j]? = some (I v) := by
  rcases j with _ | _ | _ | _ | j
  all_goals first | exact ⟨_, rfl⟩ | omega
/-- The part is put in: its spans and kids lie in blocks of our own. -/
theorem put47 (re : Re) (hre : re.wt ≤ 1000000) (q : List Int) (hq : q.length ≤ 1000000) (b0 b1 b2 : MB) (op mn mx md n : Int) (neg : Bool) (S : List (Int × Int)) (K : List Re) (els : List AV) (sn kt ko kl : Nat) (hS : S.length = sn) (he : els.length = kt) (hk : ko + kl ≤ kt)
    (hf : ∀ H, fzL (fzJ 5) ((els.drop ko).take kl) H = some (K.map reAV, H)) :
    call Try.prog pol1 47 [.agg (reC re), pathAV q, .agg [I op, .ms 3 2 sn 0 sn, .ms 4 8 kt ko kl, I mn, I mx, I md, I n, .bool neg]] [b0, b1, b2, .row 2 (S.map spanAV) 0, .row 8 els 0] =
      some (.tup [.agg (reC (putG q re (.mk op S K mn mx md n neg)).1), I (putG q re (.mk op S K mn mx md n neg)).2], [b0, b1, b2, .row 2 (S.map spanAV) sn, .row 8 els (ko + kl)]) := by
  have h1 : ∀ b4, fzA (fzJ 6) (.ms 3 2 sn 0 sn) [b0, b1, b2, .row 2 (S.map spanAV) 0, b4] = some (.sl false (S.map spanAV), [b0, b1, b2, .row 2 (S.map spanAV) sn, b4]) := fun b4 => by
    rw [fzA_row (n := 5) (z := 0) (k := 2) (els := S.map spanAV) rfl (by rw [List.length_map]; exact hS) (plain_span S)]
    simp [mark, getRow]
  have h2 : ∀ b3, fzA (fzJ 6) (.ms 4 8 kt ko kl) [b0, b1, b2, b3, .row 8 els 0] = some (.sl false (K.map reAV), [b0, b1, b2, b3, .row 8 els (ko + kl)]) := fun b3 => by
    have := fzA_ms (n := 5) (k := 8) (tot := kt) (off := ko) (len := kl) (ys := K.map reAV) (H := [b0, b1, b2, b3, .row 8 els 0]) (id := 4) (H' := mark [b0, b1, b2, b3, .row 8 els 0] 4 (ko + kl)) rfl he hk (hf _)
    rw [this]
    simp [mark, getRow]
  have hby : ∀ i, pol1.byref 47 i = false := fun i => rfl
  have hz1 : ∀ H, fz (.agg (reC re)) H = some (.agg (reC re), H) := fun H => fz_plain H (plain_reC re)
  have hz2 : ∀ H, fz (pathAV q) H = some (pathAV q, H) := fun H => fz_plain H (by simp [AV.plain, plain_ints])
  have hz3 : fz (.agg [I op, .ms 3 2 sn 0 sn, .ms 4 8 kt ko kl, I mn, I mx, I md, I n, .bool neg]) [b0, b1, b2, .row 2 (S.map spanAV) 0, .row 8 els 0] = some (reAV (.mk op S K mn mx md n neg), [b0, b1, b2, .row 2 (S.map spanAV) sn, .row 8 els (ko + kl)]) := by
    rw [show reAV (.mk op S K mn mx md n neg) = .agg (nodeL op S K mn mx md n neg) from congrArg AV.agg reC_mk]
    simp only [fz, fzA_agg, fzL, h1, h2, fzA_int]
    rfl
  have hfr : frzArgs pol1 47 0 [.agg (reC re), pathAV q, .agg [I op, .ms 3 2 sn 0 sn, .ms 4 8 kt ko kl, I mn, I mx, I md, I n, .bool neg]] [b0, b1, b2, .row 2 (S.map spanAV) 0, .row 8 els 0] =
      some ([.agg (reC re), pathAV q, reAV (.mk op S K mn mx md n neg)], [b0, b1, b2, .row 2 (S.map spanAV) sn, .row 8 els (ko + kl)]) := by
    simp only [frzArgs, hby, Bool.false_eq_true, if_false, hz1, hz2, hz3]
  rw [call_frz' rfl hfr (by simp [AV.plainL, AV.plain, plain_ints, plain_reC])]
  exact f47 q re _ hq hre _

theorem f13 (p : Pat) (hw : p.re.wt ≤ 2000) (at_ how by_ : Int) (hat : In64 at_) (hhow : In64 how) (hby : In64 by_) : ∃ P : Pat, P.re.wt ≤ 1000000 ∧ ∀ H, call Try.prog pol1 13 [patAV p, I at_, I how, I by_] H = some (patAV P, H) := by
  obtain ⟨re, caps, runes⟩ := p
  simp only at hw
  suffices h : ∃ r, (∃ P : Pat, P.re.wt ≤ 1000000 ∧ r = patAV P) ∧ ∀ H, call Try.prog pol1 13 [patAV ⟨re, caps, runes⟩, I at_, I how, I by_] H = some (r, H) by
    obtain ⟨r, ⟨P, h1, rfl⟩, h2⟩ := h
    exact ⟨P, h1, h2⟩
  have hl8 := reC_len re
  have hdr : ∀ l, (reC re ++ l).drop 8 = l := fun l => by rw [List.drop_append_of_le_length (by omega), reC_drop]; rfl
  have htk8 : ∀ r l, List.take 8 (reC r ++ l) = reC r := fun r l => by
    have := reC_len r
    rw [List.take_append_of_le_length (by omega)]; exact List.take_of_length_le (by omega)
  have hdr8 : ∀ r l, List.drop 8 (reC r ++ l) = l := fun r l => by
    have := reC_len r
    rw [List.drop_append_of_le_length (by omega), reC_drop]; rfl
  have ht10 : ∀ r (a b : AV), List.take 10 (reC r ++ [a, b]) = reC r ++ [a, b] := fun r a b => List.take_of_length_le (by simp [reC_len])
  have hp1 : List.take 8 (patC ⟨re, caps, runes⟩) = reC re := htk8 re _
  have hp2 : List.drop 9 (patC ⟨re, caps, runes⟩) = [.bool runes] := by
    show List.drop 9 (reC re ++ [I caps, .bool runes]) = _
    rw [show (9 : Nat) = 8 + 1 from rfl, ← List.drop_drop, hdr8]; rfl
  have hp3 : (patC ⟨re, caps, runes⟩)[9]? = some (.bool runes) := by
    show (reC re ++ [I caps, .bool runes])[9]? = _
    rw [List.getElem?_append_right (by omega), hl8]; rfl
  have hp4 : List.take 9 (patC ⟨re, caps, runes⟩) = reC re ++ [I caps] := by
    show List.take 9 (reC re ++ [I caps, .bool runes]) = _
    rw [List.take_append, hl8, List.take_of_length_le (by omega)]; rfl
  have hp5 : List.drop 10 (patC ⟨re, caps, runes⟩) = [] := List.drop_of_length_le (by simp [reC_len])
  have hlen10 : ∀ r, (reC r).length + (0 + 1 + 1) = 10 := fun r => by rw [reC_len]
  have h45 := f45 re.wt re (Nat.le_refl _) (by omega)
  have hsz := pathsG_len re
  have hs1 := re.size_wt
  have hs0 := re.size_pos
  have hd1 := re.depth_size
  have hdeep := pathsG_deep re
  generalize pathsG re = PS at *
  have har := around_lt (n := at_) (m := (PS.length : Int)) (by omega)
  have h12a := f12 at_ PS.length hat (by omega)
  generalize aroundI at_ PS.length = a at *
  obtain ⟨an, rfl⟩ : ∃ an : Nat, a = an := ⟨a.toNat, by omega⟩
  obtain ⟨q, hq⟩ : ∃ q, PS[an]? = some q := ⟨_, List.getElem?_eq_getElem (by omega)⟩
  have hql := hdeep q (List.mem_of_getElem? hq)
  have h46 := f46 q re (by omega) (by omega)
  have hxw := atG_wt q re
  generalize atG q re = X at *
  obtain ⟨⟨op, set, kids, mn, mx, md, n, neg⟩, e⟩ := X
  simp only at h46 hxw
  replace h46 : ∀ H, call Try.prog pol1 46 [reAV re, pathAV q] H = some (.tup [.agg (nodeL op set kids mn mx md n neg), I e], H) := fun H => by
    rw [h46 H, show reAV (.mk op set kids mn mx md n neg) = .agg (nodeL op set kids mn mx md n neg) from congrArg AV.agg reC_mk]
  have hxw' : 1 + set.length + Re.wtL kids ≤ re.wt := by simpa [Re.wt] using hxw
  have hkl := Re.wtL_len kids
  have hrh := around_lt (n := how) (m := 12) (by omega)
  have h12h := f12 how 12 hhow (by omega)
  have h12c := f12 by_ 4 hby (by omega)
  have h12d := f12 by_ 5 hby (by omega)
  have h12e := f12 by_ 6 hby (by omega)
  have hr4 := around_lt (n := by_) (m := 4) (by omega)
  have hr5 := around_lt (n := by_) (m := 5) (by omega)
  have hr6 := around_lt (n := by_) (m := 6) (by omega)
  generalize aroundI how 12 = hw12 at *
  generalize aroundI by_ 4 = v4 at *
  generalize aroundI by_ 5 = v5 at *
  generalize aroundI by_ 6 = v6 at *
  obtain ⟨j4, rfl⟩ : ∃ j : Nat, v4 = j := ⟨v4.toNat, by omega⟩
  obtain ⟨j5, rfl⟩ : ∃ j : Nat, v5 = j := ⟨v5.toNat, by omega⟩
  obtain ⟨j6, rfl⟩ : ∃ j : Nat, v6 = j := ⟨v6.toNat, by omega⟩
  have hap1 : ∀ b0 b1 b2, evAppend Try.prog [b0, b1, b2, .row 2 [] 0] 23 23 (.ms 3 2 0 0 0) (.sl false (set.map spanAV)) = some (.ms 3 2 set.length 0 set.length, [b0, b1, b2, .row 2 (set.map spanAV) 0]) := fun b0 b1 b2 => by
    have := app_spans (H := [b0, b1, b2, .row 2 [] 0]) (i := 3) (n := 0) (z := 0) (els := []) (q := set) (t := false) rfl rfl (by omega) (by omega)
    rw [Nat.zero_add] at this
    exact this
  have hap2 : ∀ b0 b1 b2 b3, evAppend Try.prog [b0, b1, b2, b3, .row 8 [] 0] 24 24 (.ms 4 8 0 0 0) (.sl false (kids.map reAV)) = some (.ms 4 8 kids.length 0 kids.length, [b0, b1, b2, b3, .row 8 (kids.map reAV) 0]) := fun b0 b1 b2 b3 => by
    have := app_res (H := [b0, b1, b2, b3, .row 8 [] 0]) (i := 4) (n := 0) (z := 0) (els := []) (q := kids) (t := false) rfl rfl (by omega) (by omega)
    rw [Nat.zero_add] at this
    exact this
  have hkf : ∀ H, fzL (fzJ 5) (((kids.map reAV).drop 0).take kids.length) H = some (kids.map reAV, H) := fun H => by
    rw [List.drop_zero, List.take_of_length_le (by simp)]
    exact fzL_plain _ _ _ (plain_kids kids)
  have hput := fun b0 b1 b2 op mn mx md n neg S sn hS => put47 re (by omega) q (by omega) b0 b1 b2 op mn mx md n neg S kids (kids.map reAV) sn kids.length 0 kids.length hS (by simp) (by omega) hkf
  simp only [Nat.zero_add] at hput
  have hputw : ∀ op S K mn mx md n neg, 1 + S.length + Re.wtL K ≤ 100000 → (putG q re (.mk op S K mn mx md n neg)).1.wt ≤ 1000000 := fun op S K mn mx md n neg h => by
    have := putG_wt q re (.mk op S K mn mx md n neg)
    simp only [Re.wt] at this
    omega
  have fin : ∀ (y : Re) (c : Int) (ru : Bool) (H : List MB), y.wt ≤ 1000000 → ∃ r, (∃ P : Pat, P.re.wt ≤ 1000000 ∧ r = patAV P) ∧ ∃ H', fz (.agg (reC y ++ [I c, .bool ru])) H = some (r, H') := fun y c ru H hy =>
    ⟨patAV ⟨y, c, ru⟩, ⟨⟨y, c, ru⟩, hy, rfl⟩, _, fz_plain _ (plain_patC ⟨y, c, ru⟩)⟩
  refine call_runA Try.func13 rfl rfl rfl rfl rfl rfl (fun _ => rfl) (by simp [AV.plainL, AV.plain]; exact plain_patC _) (by rintro r ⟨P, _, rfl⟩; exact plain_patC P) ?_
  have hcase : hw12 = 0 ∨ hw12 = 1 ∨ hw12 = 2 ∨ hw12 = 3 ∨ hw12 = 4 ∨ hw12 = 5 ∨ hw12 = 6 ∨ hw12 = 7 ∨ hw12 = 8 ∨ hw12 = 9 ∨ hw12 = 10 ∨ hw12 = 11 := by omega
  rcases hcase with rfl | rfl | rfl | rfl | rfl | rfl | rfl | rfl | rfl | rfl | rfl | rfl
  · obtain ⟨v, hv⟩ := get6' by_ (-1) 12 2 9 4 (j := j6) (by omega)
    have hp := fun b0 b1 b2 => hput b0 b1 b2 v mn mx md n neg set set.length rfl
    simp +contextual (disch := omega) only [Try.f13, dd13, ty0, ty3, ty4, ty22, ty23, ty24, ty26, ty28, ty36, ty68, ty86, ty94, go_sem, ↓reduceIte, List.reduceReplicate, Nat.reduceAdd, Nat.reduceSub, reduceCtorEq, Nat.reduceLeDiff, Nat.reduceMul, Nat.reduceLT, Nat.reduceEqDiff, Int.reduceBNe, Int.reduceBEq, Int.reduceEq, Int.reduceLT, Int.reduceLE, Int.reduceGT, Int.reduceGE, List.map_append, mu13, List.contains_nil, List.contains_cons, Nat.reduceBEq, Bool.or_self, dlt_t, dlt_f, dle_t, dle_f, dgt_t, dgt_f, dge_t, dge_f, beq_t, beq_f, bne_t, bne_f, lt_T, le_T, nle_T, nle_F, ↓wrap_up, ↓wrap_down, ↓wrap_pred, ↓wrap_sub_nat, i64_in, i64_quo, rem_in, Int.reduceToNat, room_ok, hq, h45, h46, h12a, h12h, h12c, h12d, h12e, hap1, hap2, htk8, hdr8, ht10, hlen10, cells_agg, cells_int, cells_bool, cells_sl, cells_ms, cells_rf, cells_pt, List.all_append, reC_len, reC_ok, reC_take, reC_drop, List.append_nil, hv, hp]
    repeat' (first | intro _ | apply And.intro | (unfold dOk; kernel_rfl) | exact St.beq_refl _ | (show altO _ _ _ _ = true; kernel_rfl) | (show (_ || _) = true; kernel_rfl) | (show (_ && _) = true; kernel_rfl))
    exact fin _ caps runes _ (hputw _ set kids _ _ _ _ _ (by omega))

  · have hp := fun b0 b1 b2 => hput b0 b1 b2 op mn mx md n neg (set ++ [(by_, by_)]) (set.length + 1) (by simp)
    have hap3 : ∀ b0 b1 b2 b4, evAppend Try.prog [b0, b1, b2, .row 2 (set.map spanAV) 0, b4] 23 23 (.ms 3 2 set.length 0 set.length) (.sl true [.agg [I by_, I by_]]) = some (.ms 3 2 (set.length + 1) 0 (set.length + 1), [b0, b1, b2, .row 2 ((set ++ [(by_, by_)]).map spanAV) 0, b4]) := fun b0 b1 b2 b4 => by
      have := app_spans (H := [b0, b1, b2, .row 2 (set.map spanAV) 0, b4]) (i := 3) (n := set.length) (z := 0) (els := set.map spanAV) (q := [(by_, by_)]) (t := true) rfl (by simp) (by omega) (by simp; omega)
      rw [List.map_append]
      exact this
    simp +contextual (disch := omega) only [Try.f13, dd13, ty0, ty3, ty4, ty22, ty23, ty24, ty26, ty28, ty36, ty68, ty86, ty94, go_sem, ↓reduceIte, List.reduceReplicate, Nat.reduceAdd, Nat.reduceSub, reduceCtorEq, Nat.reduceLeDiff, Nat.reduceMul, Nat.reduceLT, Nat.reduceEqDiff, Int.reduceBNe, Int.reduceBEq, Int.reduceEq, Int.reduceLT, Int.reduceLE, Int.reduceGT, Int.reduceGE, mu13, List.contains_nil, List.contains_cons, Nat.reduceBEq, Bool.or_self, dlt_t, dlt_f, dle_t, dle_f, dgt_t, dgt_f, dge_t, dge_f, beq_t, beq_f, bne_t, bne_f, lt_T, le_T, nle_T, nle_F, ↓wrap_up, ↓wrap_down, ↓wrap_pred, ↓wrap_sub_nat, i64_in, i64_quo, rem_in, Int.reduceToNat, room_ok, hq, h45, h46, h12a, h12h, h12c, h12d, h12e, hap1, hap2, htk8, hdr8, ht10, hlen10, cells_agg, cells_int, cells_bool, cells_sl, cells_ms, cells_rf, cells_pt, List.all_append, reC_len, reC_ok, reC_take, reC_drop, List.append_nil, hap3, hp]
    repeat' (first | intro _ | apply And.intro | (unfold dOk; kernel_rfl) | exact St.beq_refl _ | (show altO _ _ _ _ = true; kernel_rfl) | (show (_ || _) = true; kernel_rfl) | (show (_ && _) = true; kernel_rfl))
    exact fin _ caps runes _ (hputw _ (set ++ [(by_, by_)]) kids _ _ _ _ _ (by simp [Re.wtL, Re.wt]; omega))

  · cases set with
    | nil =>
      have hp := fun b0 b1 b2 => hput b0 b1 b2 op mn mx md n neg [] 0 rfl
      simp only [List.map_nil, List.length_nil] at hap1 hp
      simp +contextual (disch := omega) only [Try.f13, dd13, ty0, ty3, ty4, ty22, ty23, ty24, ty26, ty28, ty36, ty68, ty86, ty94, go_sem, ↓reduceIte, List.reduceReplicate, Nat.reduceAdd, Nat.reduceSub, reduceCtorEq, Nat.reduceLeDiff, Nat.reduceMul, Nat.reduceLT, Nat.reduceEqDiff, Int.reduceBNe, Int.reduceBEq, Int.reduceEq, Int.reduceLT, Int.reduceLE, Int.reduceGT, Int.reduceGE, List.map_append, mu13, List.contains_nil, List.contains_cons, Nat.reduceBEq, Bool.or_self, dlt_t, dlt_f, dle_t, dle_f, dgt_t, dgt_f, dge_t, dge_f, beq_t, beq_f, bne_t, bne_f, lt_T, le_T, nle_T, nle_F, ↓wrap_up, ↓wrap_down, ↓wrap_pred, ↓wrap_sub_nat, i64_in, i64_quo, rem_in, Int.reduceToNat, room_ok, hq, h45, h46, h12a, h12h, h12c, h12d, h12e, hap1, hap2, htk8, hdr8, ht10, hlen10, cells_agg, cells_int, cells_bool, cells_sl, cells_ms, cells_rf, cells_pt, List.all_append, reC_len, reC_ok, reC_take, reC_drop, List.append_nil, hp]
      repeat' (first | intro _ | apply And.intro | (unfold dOk; kernel_rfl) | exact St.beq_refl _ | (show altO _ _ _ _ = true; kernel_rfl) | (show (_ || _) = true; kernel_rfl) | (show (_ && _) = true; kernel_rfl))
      exact fin _ caps runes _ (hputw _ [] kids _ _ _ _ _ (by simp [Re.wtL, Re.wt]; omega))
    | cons s0 set =>
      obtain ⟨v, hv⟩ := get5' by_ 255 256 1114111 1114112 (j := j5) (by omega)
      obtain ⟨lo, hi⟩ := s0
      have hp := fun b0 b1 b2 => hput b0 b1 b2 op mn mx md n neg ((lo, v) :: set) (set.length + 1) (by simp)
      simp only [List.map_cons, List.length_cons] at hap1 hp hxw'
      simp +contextual (disch := omega) only [Try.f13, dd13, ty0, ty3, ty4, ty22, ty23, ty24, ty26, ty28, ty36, ty68, ty86, ty94, go_sem, ↓reduceIte, List.reduceReplicate, Nat.reduceAdd, Nat.reduceSub, reduceCtorEq, Nat.reduceLeDiff, Nat.reduceMul, Nat.reduceLT, Nat.reduceEqDiff, Int.reduceBNe, Int.reduceBEq, Int.reduceEq, Int.reduceLT, Int.reduceLE, Int.reduceGT, Int.reduceGE, List.map_append, mu13, List.contains_nil, List.contains_cons, Nat.reduceBEq, Bool.or_self, dlt_t, dlt_f, dle_t, dle_f, dgt_t, dgt_f, dge_t, dge_f, beq_t, beq_f, bne_t, bne_f, lt_T, le_T, nle_T, nle_F, ↓wrap_up, ↓wrap_down, ↓wrap_pred, ↓wrap_sub_nat, i64_in, i64_quo, rem_in, Int.reduceToNat, room_ok, hq, h45, h46, h12a, h12h, h12c, h12d, h12e, hap1, hap2, htk8, hdr8, ht10, hlen10, cells_agg, cells_int, cells_bool, cells_sl, cells_ms, cells_rf, cells_pt, List.all_append, reC_len, reC_ok, reC_take, reC_drop, List.append_nil, hv, hp]
      repeat' (first | intro _ | apply And.intro | (unfold dOk; kernel_rfl) | exact St.beq_refl _ | (show altO _ _ _ _ = true; kernel_rfl) | (show (_ || _) = true; kernel_rfl) | (show (_ && _) = true; kernel_rfl))
      exact fin _ caps runes _ (hputw _ ((lo, v) :: set) kids _ _ _ _ _ (by simp [Re.wtL, Re.wt]; omega))

  · obtain ⟨v, hv⟩ := get4' by_ 32 33 (-1) (j := j4) (by omega)
    have hp := fun b0 b1 b2 => hput b0 b1 b2 op v mx md n neg set set.length rfl
    simp +contextual (disch := omega) only [Try.f13, dd13, ty0, ty3, ty4, ty22, ty23, ty24, ty26, ty28, ty36, ty68, ty86, ty94, go_sem, ↓reduceIte, List.reduceReplicate, Nat.reduceAdd, Nat.reduceSub, reduceCtorEq, Nat.reduceLeDiff, Nat.reduceMul, Nat.reduceLT, Nat.reduceEqDiff, Int.reduceBNe, Int.reduceBEq, Int.reduceEq, Int.reduceLT, Int.reduceLE, Int.reduceGT, Int.reduceGE, List.map_append, mu13, List.contains_nil, List.contains_cons, Nat.reduceBEq, Bool.or_self, dlt_t, dlt_f, dle_t, dle_f, dgt_t, dgt_f, dge_t, dge_f, beq_t, beq_f, bne_t, bne_f, lt_T, le_T, nle_T, nle_F, ↓wrap_up, ↓wrap_down, ↓wrap_pred, ↓wrap_sub_nat, i64_in, i64_quo, rem_in, Int.reduceToNat, room_ok, hq, h45, h46, h12a, h12h, h12c, h12d, h12e, hap1, hap2, htk8, hdr8, ht10, hlen10, cells_agg, cells_int, cells_bool, cells_sl, cells_ms, cells_rf, cells_pt, List.all_append, reC_len, reC_ok, reC_take, reC_drop, List.append_nil, hv, hp]
    repeat' (first | intro _ | apply And.intro | (unfold dOk; kernel_rfl) | exact St.beq_refl _ | (show altO _ _ _ _ = true; kernel_rfl) | (show (_ || _) = true; kernel_rfl) | (show (_ && _) = true; kernel_rfl))
    exact fin _ caps runes _ (hputw _ set kids _ _ _ _ _ (by omega))

  · obtain ⟨v, hv⟩ := get6' by_ 32 33 (-1) (-2) 0 (j := j6) (by omega)
    have hp := fun b0 b1 b2 => hput b0 b1 b2 op mn v md n neg set set.length rfl
    simp +contextual (disch := omega) only [Try.f13, dd13, ty0, ty3, ty4, ty22, ty23, ty24, ty26, ty28, ty36, ty68, ty86, ty94, go_sem, ↓reduceIte, List.reduceReplicate, Nat.reduceAdd, Nat.reduceSub, reduceCtorEq, Nat.reduceLeDiff, Nat.reduceMul, Nat.reduceLT, Nat.reduceEqDiff, Int.reduceBNe, Int.reduceBEq, Int.reduceEq, Int.reduceLT, Int.reduceLE, Int.reduceGT, Int.reduceGE, List.map_append, mu13, List.contains_nil, List.contains_cons, Nat.reduceBEq, Bool.or_self, dlt_t, dlt_f, dle_t, dle_f, dgt_t, dgt_f, dge_t, dge_f, beq_t, beq_f, bne_t, bne_f, lt_T, le_T, nle_T, nle_F, ↓wrap_up, ↓wrap_down, ↓wrap_pred, ↓wrap_sub_nat, i64_in, i64_quo, rem_in, Int.reduceToNat, room_ok, hq, h45, h46, h12a, h12h, h12c, h12d, h12e, hap1, hap2, htk8, hdr8, ht10, hlen10, cells_agg, cells_int, cells_bool, cells_sl, cells_ms, cells_rf, cells_pt, List.all_append, reC_len, reC_ok, reC_take, reC_drop, List.append_nil, hv, hp]
    repeat' (first | intro _ | apply And.intro | (unfold dOk; kernel_rfl) | exact St.beq_refl _ | (show altO _ _ _ _ = true; kernel_rfl) | (show (_ || _) = true; kernel_rfl) | (show (_ && _) = true; kernel_rfl))
    exact fin _ caps runes _ (hputw _ set kids _ _ _ _ _ (by omega))

  · obtain ⟨v, hv⟩ := get4' by_ 2 3 (-1) (j := j4) (by omega)
    have hp := fun b0 b1 b2 => hput b0 b1 b2 op mn mx v n neg set set.length rfl
    simp +contextual (disch := omega) only [Try.f13, dd13, ty0, ty3, ty4, ty22, ty23, ty24, ty26, ty28, ty36, ty68, ty86, ty94, go_sem, ↓reduceIte, List.reduceReplicate, Nat.reduceAdd, Nat.reduceSub, reduceCtorEq, Nat.reduceLeDiff, Nat.reduceMul, Nat.reduceLT, Nat.reduceEqDiff, Int.reduceBNe, Int.reduceBEq, Int.reduceEq, Int.reduceLT, Int.reduceLE, Int.reduceGT, Int.reduceGE, List.map_append, mu13, List.contains_nil, List.contains_cons, Nat.reduceBEq, Bool.or_self, dlt_t, dlt_f, dle_t, dle_f, dgt_t, dgt_f, dge_t, dge_f, beq_t, beq_f, bne_t, bne_f, lt_T, le_T, nle_T, nle_F, ↓wrap_up, ↓wrap_down, ↓wrap_pred, ↓wrap_sub_nat, i64_in, i64_quo, rem_in, Int.reduceToNat, room_ok, hq, h45, h46, h12a, h12h, h12c, h12d, h12e, hap1, hap2, htk8, hdr8, ht10, hlen10, cells_agg, cells_int, cells_bool, cells_sl, cells_ms, cells_rf, cells_pt, List.all_append, reC_len, reC_ok, reC_take, reC_drop, List.append_nil, hv, hp]
    repeat' (first | intro _ | apply And.intro | (unfold dOk; kernel_rfl) | exact St.beq_refl _ | (show altO _ _ _ _ = true; kernel_rfl) | (show (_ || _) = true; kernel_rfl) | (show (_ && _) = true; kernel_rfl))
    exact fin _ caps runes _ (hputw _ set kids _ _ _ _ _ (by omega))

  · obtain ⟨v, hv⟩ := get5' by_ 0 1 5 6 (j := j5) (by omega)
    have hp := fun b0 b1 b2 => hput b0 b1 b2 op mn mx md v neg set set.length rfl
    simp +contextual (disch := omega) only [Try.f13, dd13, ty0, ty3, ty4, ty22, ty23, ty24, ty26, ty28, ty36, ty68, ty86, ty94, go_sem, ↓reduceIte, List.reduceReplicate, Nat.reduceAdd, Nat.reduceSub, reduceCtorEq, Nat.reduceLeDiff, Nat.reduceMul, Nat.reduceLT, Nat.reduceEqDiff, Int.reduceBNe, Int.reduceBEq, Int.reduceEq, Int.reduceLT, Int.reduceLE, Int.reduceGT, Int.reduceGE, List.map_append, mu13, List.contains_nil, List.contains_cons, Nat.reduceBEq, Bool.or_self, dlt_t, dlt_f, dle_t, dle_f, dgt_t, dgt_f, dge_t, dge_f, beq_t, beq_f, bne_t, bne_f, lt_T, le_T, nle_T, nle_F, ↓wrap_up, ↓wrap_down, ↓wrap_pred, ↓wrap_sub_nat, i64_in, i64_quo, rem_in, Int.reduceToNat, room_ok, hq, h45, h46, h12a, h12h, h12c, h12d, h12e, hap1, hap2, htk8, hdr8, ht10, hlen10, cells_agg, cells_int, cells_bool, cells_sl, cells_ms, cells_rf, cells_pt, List.all_append, reC_len, reC_ok, reC_take, reC_drop, List.append_nil, hv, hp]
    repeat' (first | intro _ | apply And.intro | (unfold dOk; kernel_rfl) | exact St.beq_refl _ | (show altO _ _ _ _ = true; kernel_rfl) | (show (_ || _) = true; kernel_rfl) | (show (_ && _) = true; kernel_rfl))
    exact fin _ caps runes _ (hputw _ set kids _ _ _ _ _ (by omega))

  · have hp := fun b0 b1 b2 => hput b0 b1 b2 op mn mx md n (!neg) set set.length rfl
    simp +contextual (disch := omega) only [Try.f13, dd13, ty0, ty3, ty4, ty22, ty23, ty24, ty26, ty28, ty36, ty68, ty86, ty94, go_sem, ↓reduceIte, List.reduceReplicate, Nat.reduceAdd, Nat.reduceSub, reduceCtorEq, Nat.reduceLeDiff, Nat.reduceMul, Nat.reduceLT, Nat.reduceEqDiff, Int.reduceBNe, Int.reduceBEq, Int.reduceEq, Int.reduceLT, Int.reduceLE, Int.reduceGT, Int.reduceGE, List.map_append, mu13, List.contains_nil, List.contains_cons, Nat.reduceBEq, Bool.or_self, dlt_t, dlt_f, dle_t, dle_f, dgt_t, dgt_f, dge_t, dge_f, beq_t, beq_f, bne_t, bne_f, lt_T, le_T, nle_T, nle_F, ↓wrap_up, ↓wrap_down, ↓wrap_pred, ↓wrap_sub_nat, i64_in, i64_quo, rem_in, Int.reduceToNat, room_ok, hq, h45, h46, h12a, h12h, h12c, h12d, h12e, hap1, hap2, htk8, hdr8, ht10, hlen10, cells_agg, cells_int, cells_bool, cells_sl, cells_ms, cells_rf, cells_pt, List.all_append, reC_len, reC_ok, reC_take, reC_drop, List.append_nil, hp]
    repeat' (first | intro _ | apply And.intro | (unfold dOk; kernel_rfl) | exact St.beq_refl _ | (show altO _ _ _ _ = true; kernel_rfl) | (show (_ || _) = true; kernel_rfl) | (show (_ && _) = true; kernel_rfl))
    exact fin _ caps runes _ (hputw _ set kids _ _ _ _ _ (by omega))

  · have hzf : ∀ H, fzL (fzJ 5) (((kids.map reAV ++ [AV.agg [I 0, .sl true [], .sl true [], I 0, I 0, I 0, I 0, .bool false]]).drop 0).take (kids.length + 1)) H = some ((kids ++ [zeroRe]).map reAV, H) := fun H => by
      rw [List.drop_zero, List.take_of_length_le (by simp), fzL_append, fzL_plain _ _ _ (plain_kids kids), List.map_append]
      rfl
    have hp := fun b0 b1 b2 => put47 re (by omega) q (by omega) b0 b1 b2 op mn mx md n neg set (kids ++ [zeroRe]) (kids.map reAV ++ [.agg [I 0, .sl true [], .sl true [], I 0, I 0, I 0, I 0, .bool false]]) set.length (kids.length + 1) 0 (kids.length + 1) rfl (by simp) (by omega) hzf
    simp only [Nat.zero_add] at hp
    have hap3 : ∀ b0 b1 b2 b3, evAppend Try.prog [b0, b1, b2, b3, .row 8 (kids.map reAV) 0] 24 24 (.ms 4 8 kids.length 0 kids.length) (.sl true [.agg [I 0, .sl true [], .sl true [], I 0, I 0, I 0, I 0, .bool false]]) = some (.ms 4 8 (kids.length + 1) 0 (kids.length + 1), [b0, b1, b2, b3, .row 8 (kids.map reAV ++ [.agg [I 0, .sl true [], .sl true [], I 0, I 0, I 0, I 0, .bool false]]) 0]) := fun b0 b1 b2 b3 =>
      app_re (H := [b0, b1, b2, b3, .row 8 (kids.map reAV) 0]) (i := 4) (n := kids.length) (z := 0) (els := kids.map reAV) (t := true) rfl (by simp) rfl (by omega) (by omega)
    simp +contextual (disch := omega) only [Try.f13, dd13, ty0, ty3, ty4, ty22, ty23, ty24, ty26, ty28, ty36, ty68, ty86, ty94, go_sem, ↓reduceIte, List.reduceReplicate, Nat.reduceAdd, Nat.reduceSub, reduceCtorEq, Nat.reduceLeDiff, Nat.reduceMul, Nat.reduceLT, Nat.reduceEqDiff, Int.reduceBNe, Int.reduceBEq, Int.reduceEq, Int.reduceLT, Int.reduceLE, Int.reduceGT, Int.reduceGE, List.map_append, mu13, List.contains_nil, List.contains_cons, Nat.reduceBEq, Bool.or_self, dlt_t, dlt_f, dle_t, dle_f, dgt_t, dgt_f, dge_t, dge_f, beq_t, beq_f, bne_t, bne_f, lt_T, le_T, nle_T, nle_F, ↓wrap_up, ↓wrap_down, ↓wrap_pred, ↓wrap_sub_nat, i64_in, i64_quo, rem_in, Int.reduceToNat, room_ok, hq, h45, h46, h12a, h12h, h12c, h12d, h12e, hap1, hap2, htk8, hdr8, ht10, hlen10, cells_agg, cells_int, cells_bool, cells_sl, cells_ms, cells_rf, cells_pt, List.all_append, reC_len, reC_ok, reC_take, reC_drop, List.append_nil, hap3, hp]
    repeat' (first | intro _ | apply And.intro | (unfold dOk; kernel_rfl) | exact St.beq_refl _ | (show altO _ _ _ _ = true; kernel_rfl) | (show (_ || _) = true; kernel_rfl) | (show (_ && _) = true; kernel_rfl))
    exact fin _ caps runes _ (hputw _ set (kids ++ [zeroRe]) _ _ _ _ _ (by rw [Re.wtL_append]; simp [Re.wtL, Re.wt]; omega))

  · cases kids with
    | nil =>
      have hp := fun b0 b1 b2 => hput b0 b1 b2 op mn mx md n neg set set.length rfl
      simp only [List.length_nil, List.map_nil] at hp hap2
      simp +contextual (disch := omega) only [Try.f13, dd13, ty0, ty3, ty4, ty22, ty23, ty24, ty26, ty28, ty36, ty68, ty86, ty94, go_sem, ↓reduceIte, List.reduceReplicate, Nat.reduceAdd, Nat.reduceSub, reduceCtorEq, Nat.reduceLeDiff, Nat.reduceMul, Nat.reduceLT, Nat.reduceEqDiff, Int.reduceBNe, Int.reduceBEq, Int.reduceEq, Int.reduceLT, Int.reduceLE, Int.reduceGT, Int.reduceGE, List.map_append, mu13, List.contains_nil, List.contains_cons, Nat.reduceBEq, Bool.or_self, dlt_t, dlt_f, dle_t, dle_f, dgt_t, dgt_f, dge_t, dge_f, beq_t, beq_f, bne_t, bne_f, lt_T, le_T, nle_T, nle_F, ↓wrap_up, ↓wrap_down, ↓wrap_pred, ↓wrap_sub_nat, i64_in, i64_quo, rem_in, Int.reduceToNat, room_ok, hq, h45, h46, h12a, h12h, h12c, h12d, h12e, hap1, hap2, htk8, hdr8, ht10, hlen10, cells_agg, cells_int, cells_bool, cells_sl, cells_ms, cells_rf, cells_pt, List.all_append, reC_len, reC_ok, reC_take, reC_drop, List.append_nil, hp]
      repeat' (first | intro _ | apply And.intro | (unfold dOk; kernel_rfl) | exact St.beq_refl _ | (show altO _ _ _ _ = true; kernel_rfl) | (show (_ || _) = true; kernel_rfl) | (show (_ && _) = true; kernel_rfl))
      exact fin _ caps runes _ (hputw _ set [] _ _ _ _ _ (by simp [Re.wtL, Re.wt]; omega))
    | cons k0 kids =>
      have hzf : ∀ H, fzL (fzJ 5) ((((k0 :: kids).map reAV).drop 1).take kids.length) H = some (kids.map reAV, H) := fun H => by
        rw [List.map_cons, List.drop_succ_cons, List.drop_zero, List.take_of_length_le (by simp)]
        exact fzL_plain _ _ _ (plain_kids kids)
      have hp := fun b0 b1 b2 => put47 re (by omega) q (by omega) b0 b1 b2 op mn mx md n neg set kids ((k0 :: kids).map reAV) set.length (kids.length + 1) 1 kids.length rfl (by simp) (by omega) hzf
      simp only [List.map_cons, List.length_cons] at hp hap2
      simp +contextual (disch := omega) only [Try.f13, dd13, ty0, ty3, ty4, ty22, ty23, ty24, ty26, ty28, ty36, ty68, ty86, ty94, go_sem, ↓reduceIte, List.reduceReplicate, Nat.reduceAdd, Nat.reduceSub, reduceCtorEq, Nat.reduceLeDiff, Nat.reduceMul, Nat.reduceLT, Nat.reduceEqDiff, Int.reduceBNe, Int.reduceBEq, Int.reduceEq, Int.reduceLT, Int.reduceLE, Int.reduceGT, Int.reduceGE, List.map_append, mu13, List.contains_nil, List.contains_cons, Nat.reduceBEq, Bool.or_self, dlt_t, dlt_f, dle_t, dle_f, dgt_t, dgt_f, dge_t, dge_f, beq_t, beq_f, bne_t, bne_f, lt_T, le_T, nle_T, nle_F, ↓wrap_up, ↓wrap_down, ↓wrap_pred, ↓wrap_sub_nat, i64_in, i64_quo, rem_in, Int.reduceToNat, room_ok, hq, h45, h46, h12a, h12h, h12c, h12d, h12e, hap1, hap2, htk8, hdr8, ht10, hlen10, cells_agg, cells_int, cells_bool, cells_sl, cells_ms, cells_rf, cells_pt, List.all_append, reC_len, reC_ok, reC_take, reC_drop, List.append_nil, hp, Nat.add_sub_cancel]
      repeat' (first | intro _ | apply And.intro | (unfold dOk; kernel_rfl) | exact St.beq_refl _ | (show altO _ _ _ _ = true; kernel_rfl) | (show (_ || _) = true; kernel_rfl) | (show (_ && _) = true; kernel_rfl))
      exact fin _ caps runes _ (hputw _ set kids _ _ _ _ _ (by simp [Re.wtL] at hxw'; omega))

  · obtain ⟨v, hv⟩ := get5' by_ 0 9 10 (-1) (j := j5) (by omega)
    have hp := fun b0 b1 b2 => hput b0 b1 b2 op mn mx md n neg set set.length rfl
    simp +contextual (disch := omega) only [Try.f13, dd13, ty0, ty3, ty4, ty22, ty23, ty24, ty26, ty28, ty36, ty68, ty86, ty94, go_sem, ↓reduceIte, List.reduceReplicate, Nat.reduceAdd, Nat.reduceSub, reduceCtorEq, Nat.reduceLeDiff, Nat.reduceMul, Nat.reduceLT, Nat.reduceEqDiff, Int.reduceBNe, Int.reduceBEq, Int.reduceEq, Int.reduceLT, Int.reduceLE, Int.reduceGT, Int.reduceGE, List.map_append, mu13, List.contains_nil, List.contains_cons, Nat.reduceBEq, Bool.or_self, dlt_t, dlt_f, dle_t, dle_f, dgt_t, dgt_f, dge_t, dge_f, beq_t, beq_f, bne_t, bne_f, lt_T, le_T, nle_T, nle_F, ↓wrap_up, ↓wrap_down, ↓wrap_pred, ↓wrap_sub_nat, i64_in, i64_quo, rem_in, Int.reduceToNat, room_ok, hp1, hp2, hp4, hp5, List.append_assoc, hq, h45, h46, h12a, h12h, h12c, h12d, h12e, hap1, hap2, htk8, hdr8, ht10, hlen10, cells_agg, cells_int, cells_bool, cells_sl, cells_ms, cells_rf, cells_pt, List.all_append, reC_len, reC_ok, reC_take, reC_drop, List.append_nil, hv, hp]
    repeat' (first | intro _ | apply And.intro | (unfold dOk; kernel_rfl) | exact St.beq_refl _ | (show altO _ _ _ _ = true; kernel_rfl) | (show (_ || _) = true; kernel_rfl) | (show (_ && _) = true; kernel_rfl))
    exact fin _ v runes _ (hputw _ set kids _ _ _ _ _ (by omega))

  · have hp := fun b0 b1 b2 => hput b0 b1 b2 op mn mx md n neg set set.length rfl
    simp +contextual (disch := omega) only [Try.f13, dd13, ty0, ty3, ty4, ty22, ty23, ty24, ty26, ty28, ty36, ty68, ty86, ty94, go_sem, ↓reduceIte, List.reduceReplicate, Nat.reduceAdd, Nat.reduceSub, reduceCtorEq, Nat.reduceLeDiff, Nat.reduceMul, Nat.reduceLT, Nat.reduceEqDiff, Int.reduceBNe, Int.reduceBEq, Int.reduceEq, Int.reduceLT, Int.reduceLE, Int.reduceGT, Int.reduceGE, List.map_append, mu13, List.contains_nil, List.contains_cons, Nat.reduceBEq, Bool.or_self, dlt_t, dlt_f, dle_t, dle_f, dgt_t, dgt_f, dge_t, dge_f, beq_t, beq_f, bne_t, bne_f, lt_T, le_T, nle_T, nle_F, ↓wrap_up, ↓wrap_down, ↓wrap_pred, ↓wrap_sub_nat, i64_in, i64_quo, rem_in, Int.reduceToNat, room_ok, hq, h45, h46, h12a, h12h, h12c, h12d, h12e, hap1, hap2, htk8, hdr8, ht10, hlen10, cells_agg, cells_int, cells_bool, cells_sl, cells_ms, cells_rf, cells_pt, List.all_append, reC_len, reC_ok, reC_take, reC_drop, List.append_nil, hp, hp1, hp2, hp3, hp4, hp5, List.append_assoc]
    repeat' (first | intro _ | apply And.intro | (unfold dOk; kernel_rfl) | exact St.beq_refl _ | (show altO _ _ _ _ = true; kernel_rfl) | (show (_ || _) = true; kernel_rfl) | (show (_ && _) = true; kernel_rfl))
    exact fin _ caps (!runes) _ (hputw _ set kids _ _ _ _ _ (by omega))

end
section
attribute [local go_sem] evAppend AV.cells List.map_append tySzE List.head?_drop Nat.mul_one sameAt_zero sameAt_two sameAt_three sameAt_four sameAt_five
open Go.Proofs Go.RowKit Go.IntWalk
set_option maxRecDepth 100000
set_option linter.unusedSimpArgs false
set_option linter.unusedVariables false
set_option maxHeartbeats 8000000

theorem mW5 : mW1 5 ≤ 2000 := by decide
theorem f3 (l : List Int) (uses at_ how by_ : Int) (hl : ∀ x ∈ l, In64 x) (hu : In64 uses) (hat : In64 at_) (hhow : In64 how) (hby : In64 by_) (H : List MB) : call Try.prog pol1 3 [.sl false (l.map I), I uses, I at_, I how, I by_] H = some (.bool true, H) := by
  have h18 := f18
  have h12 := f12 uses 128 hu (by omega)
  have h11a := f11 l hl (aroundI uses 128)
  have h11b := f11 l hl 64
  have w1 := Nat.le_trans (treeF_wt l (aroundI uses 128) 5 ⟨0, 40, 0⟩) mW5
  have w2 := Nat.le_trans (treeF_wt l 64 5 ⟨0, 40, 0⟩) mW5
  generalize treeF l (aroundI uses 128) 5 ⟨0, 40, 0⟩ = X1 at *
  generalize treeF l 64 5 ⟨0, 40, 0⟩ = X2 at *
  generalize aroundI uses 128 = u at *
  obtain ⟨P, hP, h13⟩ := f13 ⟨X1.1, X1.2.caps, false⟩ w1 at_ how by_ hat hhow hby
  obtain ⟨P1, hP1⟩ : ∃ P1 : Pat, P1 = ⟨X1.1, X1.2.caps, false⟩ := ⟨_, rfl⟩
  obtain ⟨P2, hP2⟩ : ∃ P2 : Pat, P2 = ⟨X2.1, X2.2.caps, false⟩ := ⟨_, rfl⟩
  rw [← hP1] at h11a h13
  rw [← hP2] at h11b
  have w1' : P1.re.wt ≤ 1000000 := by rw [hP1]; simp only; omega
  have w2' : P2.re.wt ≤ 1000000 := by rw [hP2]; simp only; omega
  clear hP1 hP2 w1 w2
  have facts : ∀ p : Pat, ∃ c : List AV, c = patC p ∧ c.length = 10 ∧ List.take 10 c = c ∧ c.all AV.ok = true ∧ AV.plainL c = true := fun p => ⟨patC p, rfl, by simp [reC_len], List.take_of_length_le (by simp [reC_len]), by simp [reC_ok, AV.ok], plain_patC p⟩
  obtain ⟨c1, k1, l1, t1, o1, p1⟩ := facts P1
  obtain ⟨c, k0, l0, t0, o0, p0⟩ := facts P
  obtain ⟨c2, k2, l2, t2, o2, p2⟩ := facts P2
  replace h11a : ∀ H, call Try.prog pol1 11 [.sl false (l.map I), I u, I 40] H = some (.agg c1, H) := fun H => by rw [k1]; exact h11a H
  replace h11b : ∀ H, call Try.prog pol1 11 [.sl false (l.map I), I 64, I 40] H = some (.agg c2, H) := fun H => by rw [k2]; exact h11b H
  replace h13 : ∀ H, call Try.prog pol1 13 [.agg c1, I at_, I how, I by_] H = some (.agg c, H) := fun H => by rw [k0, k1]; exact h13 H
  refine call_run Try.func3 rfl rfl rfl rfl rfl rfl (fun _ => rfl) (by simp [AV.plain, AV.plainL, plain_ints]) rfl ?_ H
  simp +contextual (disch := omega) only [Try.f3, dd3, ty0, ty3, ty4, ty22, ty28, ty32, ty35, ty36, ty37, ty41, ty42, go_sem, ↓reduceIte, List.reduceReplicate, Nat.reduceAdd, Nat.reduceSub, reduceCtorEq, Nat.reduceLeDiff, Nat.reduceMul, Nat.reduceLT, Nat.reduceEqDiff, Int.reduceBNe, Int.reduceBEq, Int.reduceEq, Int.reduceLT, Int.reduceLE, Int.reduceGT, Int.reduceGE, mu3, List.contains_nil, List.contains_cons, Nat.reduceBEq, Bool.or_self, dlt_t, dlt_f, dle_t, dle_f, dgt_t, dgt_f, dge_t, dge_f, beq_t, beq_f, bne_t, bne_f, lt_T, le_T, nle_T, nle_F, ↓wrap_up, ↓wrap_down, ↓wrap_pred, ↓wrap_sub_nat, i64_in, i64_quo, rem_in, Int.reduceToNat, room_ok, h12, h11a, h11b, h13, l1, t1, o1, l0, t0, o0, l2, t2, o2]
  repeat' (first | intro _ | apply And.intro | (unfold dOk; kernel_rfl) | exact St.beq_refl _ | (show altO _ _ _ _ = true; kernel_rfl) | (show (_ || _) = true; kernel_rfl) | (show (_ && _) = true; kernel_rfl))
  refine W_count (M := (mskOf (pol1.mask 3) (pol1.gc 3) (pol1.acts 3) 0 4)) rfl 3 (fun i => (⟨62, [(13, I i), (12, .sl true [.agg c1, .agg c, .agg c2])], [.row 10 [.agg c1] 0]⟩ : St)) (fun _ => True) ?_ ?_ trivial _ ?_
  · intro i hi _
    obtain ⟨x, cx, kx, lx, tx, ox, hx, hxw⟩ : ∃ (x : Pat) (cx : List AV), cx = patC x ∧ cx.length = 10 ∧ List.take 10 cx = cx ∧ cx.all AV.ok = true ∧ [AV.agg c1, .agg c, .agg c2][i]? = some (.agg cx) ∧ x.re.wt ≤ 1000000 := by
      have : i = 0 ∨ i = 1 ∨ i = 2 := by omega
      rcases this with rfl | rfl | rfl
      · exact ⟨P1, c1, k1, l1, t1, o1, rfl, w1'⟩
      · exact ⟨P, c, k0, l0, t0, o0, rfl, hP⟩
      · exact ⟨P2, c2, k2, l2, t2, o2, rfl, w2'⟩
    have h14 := f14 x hxw
    have h15 := f15 x hxw
    have hcb := comp_bounds x hxw
    generalize compP x = C at *
    obtain ⟨g, e⟩ := C
    simp only at h14 h15 hcb
    have h17 := f17 g hcb.1
    have h16 := f16 g hcb.1 hcb.2
    replace h14 : ∀ H, call Try.prog pol1 14 [.agg cx] H = some (.tup [prgAV g, I e], H) := fun H => by rw [kx]; exact h14 H
    replace h15 : ∀ H, call Try.prog pol1 15 [.agg cx] H = some (.tup [prgAV g, I e], H) := fun H => by rw [kx]; exact h15 H
    simp +contextual (disch := omega) only [Try.f3, dd3, ty0, ty3, ty4, ty22, ty28, ty32, ty35, ty36, ty37, ty41, ty42, go_sem, ↓reduceIte, List.reduceReplicate, Nat.reduceAdd, Nat.reduceSub, reduceCtorEq, Nat.reduceLeDiff, Nat.reduceMul, Nat.reduceLT, Nat.reduceEqDiff, Int.reduceBNe, Int.reduceBEq, Int.reduceEq, Int.reduceLT, Int.reduceLE, Int.reduceGT, Int.reduceGE, mu3, List.contains_nil, List.contains_cons, Nat.reduceBEq, Bool.or_self, dlt_t, dlt_f, dle_t, dle_f, dgt_t, dgt_f, dge_t, dge_f, beq_t, beq_f, bne_t, bne_f, lt_T, le_T, nle_T, nle_F, ↓wrap_up, ↓wrap_down, ↓wrap_pred, ↓wrap_sub_nat, i64_in, i64_quo, rem_in, Int.reduceToNat, room_ok, hx, lx, tx, ox, h14, h15, h17, h16]
    repeat' (first | intro _ | apply And.intro | (unfold dOk; kernel_rfl) | exact St.beq_refl _ | (show altO _ _ _ _ = true; kernel_rfl) | (show (_ || _) = true; kernel_rfl) | (show (_ && _) = true; kernel_rfl))
    exact (by first | rfl | (refine prep_to (n := 1) (m := ⟨some [13, 12], some 1, []⟩) rfl rfl ?_ ?_ ?_ <;> first | rfl | (simp [keepT, AV.underL, AV.under, MB.under, underL_plain, under_plain, underL_append, plain_ints, plain_span, plain_ins, plain_prg, -List.map_take, -List.map_replicate, -List.map_set, p1, p0, p2]; done) | (simp [keepT, AV.underL, AV.under, MB.under, underL_plain, under_plain, underL_append, plain_ints, plain_span, plain_ins, plain_prg, -List.map_take, -List.map_replicate, -List.map_set, p1, p0, p2]; omega)))
  · intro _
    simp +contextual (disch := omega) only [Try.f3, dd3, ty0, ty3, ty4, ty22, ty28, ty32, ty35, ty36, ty37, ty41, ty42, go_sem, ↓reduceIte, List.reduceReplicate, Nat.reduceAdd, Nat.reduceSub, reduceCtorEq, Nat.reduceLeDiff, Nat.reduceMul, Nat.reduceLT, Nat.reduceEqDiff, Int.reduceBNe, Int.reduceBEq, Int.reduceEq, Int.reduceLT, Int.reduceLE, Int.reduceGT, Int.reduceGE, mu3, List.contains_nil, List.contains_cons, Nat.reduceBEq, Bool.or_self, dlt_t, dlt_f, dle_t, dle_f, dgt_t, dgt_f, dge_t, dge_f, beq_t, beq_f, bne_t, bne_f, lt_T, le_T, nle_T, nle_F, ↓wrap_up, ↓wrap_down, ↓wrap_pred, ↓wrap_sub_nat, i64_in, i64_quo, rem_in, Int.reduceToNat, room_ok, h18]
    exact ⟨_, rfl⟩
  · exact (by first | rfl | (refine prep_to (n := 1) (m := ⟨some [13, 12], some 1, []⟩) rfl rfl ?_ ?_ ?_ <;> first | rfl | (simp [keepT, AV.underL, AV.under, MB.under, underL_plain, under_plain, underL_append, plain_ints, plain_span, plain_ins, plain_prg, -List.map_take, -List.map_replicate, -List.map_set, p1, p0, p2]; done) | (simp [keepT, AV.underL, AV.under, MB.under, underL_plain, under_plain, underL_append, plain_ints, plain_span, plain_ins, plain_prg, -List.map_take, -List.map_replicate, -List.map_set, p1, p0, p2]; omega)))
end
end Go.Ev
