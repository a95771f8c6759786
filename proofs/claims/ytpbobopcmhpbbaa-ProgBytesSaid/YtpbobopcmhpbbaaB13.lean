/- Functions of the program, each with what it computes; no further conditions. -/
import Derived.Test.YtpbobopcmhpbbaaB05
import Derived.Test.YtpbobopcmhpbbaaB10
import Derived.Test.YtpbobopcmhpbbaaB12
set_option linter.unusedVariables false
set_option linter.unusedSimpArgs false
namespace Go.Ev
attribute [local go_sem] eq_self bindW_some bindW_map bindW_ite bindW_iteN W_seq W_region W_draw W_cond W_condK W_ret W_skip W_exit W_scope W_label W_block blockK_norm blockK_ret blockK_exit WO_nil WO_cons WO_guard WD_nil WD_cons WD_guard guardV guardW_boolT guardW_boolF guardW_tup fpL_some fpL_none footprint thenK_norm thenK_ret thenK_exit put_some put_none ev_tmp ev_con ev_func ofK_int ofK_bool ofK_str ofK_nil evOp evBuiltin evCall evLen evAppend getElem_16 getElem_4 List.length_cons List.length_nil List.cons_append List.nil_append List.append_nil if_false if_true Bool.false_eq_true Bool.true_eq_false Option.map_some Option.map_none List.map_cons List.map_nil evBinOp evBin evUn asB_bool splitB_decide splitB_true splitB_false splitB_beq splitB_bne splitB_not endK_ret endK_norm List.getElem?_cons_zero List.getElem?_cons_succ evResults evResult packRes retK_norm retK_ret cellsAt mkVal evFieldAddr evField evIndexAddr evPart evStore evBuild evBuildSlice fillC fillE evSlice evMakeSlice evConvert getRow AV.cells List.head?_cons List.drop_zero List.drop_succ_cons List.take_zero List.take_succ_cons List.drop_nil List.take_nil List.all_cons List.all_nil AV.ok Bool.and_self Bool.and_true Bool.true_and and_self and_true true_and Nat.zero_add Nat.add_zero setCells splice pairsOk pairsX altW_none altW_some cfg_al WI_nil WI_cons FP.apart heapEq_refl sameAt_refl Bool.or_true Bool.true_or Bool.or_false srcElems elemsOf mutDst roundK_norm roundK_exit roundK_ret List.length_map List.getElem?_map Int.toNat_natCast decide_true decide_false Bool.not_true Bool.not_false List.set set_0 set_1 set_2 set_3 set_4 look_hit look lookD_hit lookD_cons lookD_nil ins_hit ins upd_hit upd rem1_hit rem1 dropT dropSt_eq initT cfg_dd cfg_bd cfg_ra actL_nil actL_cons act1 updT_hit updT frzB retE_norm retE_ret bndO bnd evEq eqCells not_false_eq_true not_true_eq_false toList_some Array.size_empty List.length_append List.map_append endE_norm endE_ret head_take1 List.contains_nil List.contains_cons Bool.or_self dlt_t dlt_f dle_t dle_f dgt_t dgt_f dge_t dge_f beq_t beq_f bne_t bne_f lt_T le_T nle_T nle_F Go.IntWalk.i64_in Go.IntWalk.i64_quo Go.IntWalk.rem_in ty0 ty3
section
attribute [local go_sem] tySzE List.head?_drop Nat.mul_one sameAt_zero sameAt_two sameAt_three sameAt_four sameAt_five room_ok ty4 ty22 ty23 ty33 ty35 ty36 ty53 ty104 ty112 ty115 ty117 ty119 ty120 ty124
open Go.Proofs Go.RowKit Go.IntWalk
set_option maxRecDepth 100000
set_option linter.unusedSimpArgs false
set_option linter.unusedVariables false
set_option maxHeartbeats 4000000

theorem f30 (g : Prg) (hb : PrgB g) (H : List MB) : call Try.prog pol1 30 [.agg [.sl false (g.ins.map insAV), I g.caps, .bool g.runes]] H = some (I (validG g), H) := by
  obtain ⟨hl, hs⟩ := hb
  refine call_run Try.func30 rfl rfl rfl rfl rfl rfl (fun _ => rfl) (by simp [AV.plain, AV.plainL, plain_ints, plain_span, plain_ins, plain_prg]) (by simp [AV.plain, AV.plainL, plain_ints, plain_span, plain_ins, plain_prg]) ?_ H
  by_cases h1 : 8192 < g.ins.length
  · have e : validG g = 4 := by simp [validG, h1]
    rw [e]
    simp +contextual (disch := omega) only [Try.f30, dd30, go_sem, ↓reduceIte, List.reduceReplicate, Nat.reduceAdd, Nat.reduceSub, reduceCtorEq, Nat.reduceLeDiff, Nat.reduceMul, Nat.reduceLT, Nat.reduceEqDiff, Int.reduceBNe, Int.reduceBEq, Int.reduceEq, Int.reduceLT, Int.reduceLE, Int.reduceGT, Int.reduceGE, mu30, Nat.reduceBEq, ↓wrap_up, ↓wrap_down, ↓wrap_pred, ↓wrap_sub_nat, Int.reduceToNat]
    exact fzEq rfl rfl
  by_cases h2 : g.ins.length = 0 ∨ g.caps < 0 ∨ 9 < g.caps
  · have e : validG g = 1 := by unfold validG; rw [if_neg h1, if_pos h2]
    rw [e]
    simp +contextual (disch := omega) only [Try.f30, dd30, go_sem, ↓reduceIte, List.reduceReplicate, Nat.reduceAdd, Nat.reduceSub, reduceCtorEq, Nat.reduceLeDiff, Nat.reduceMul, Nat.reduceLT, Nat.reduceEqDiff, Int.reduceBNe, Int.reduceBEq, Int.reduceEq, Int.reduceLT, Int.reduceLE, Int.reduceGT, Int.reduceGE, mu30, Nat.reduceBEq, ↓wrap_up, ↓wrap_down, ↓wrap_pred, ↓wrap_sub_nat, Int.reduceToNat]
    repeat' (first | intro _ | apply And.intro | exact fzEq rfl rfl)
    all_goals (exfalso; omega)
  simp +contextual (disch := omega) only [Try.f30, dd30, go_sem, ↓reduceIte, List.reduceReplicate, Nat.reduceAdd, Nat.reduceSub, reduceCtorEq, Nat.reduceLeDiff, Nat.reduceMul, Nat.reduceLT, Nat.reduceEqDiff, Int.reduceBNe, Int.reduceBEq, Int.reduceEq, Int.reduceLT, Int.reduceLE, Int.reduceGT, Int.reduceGE, mu30, Nat.reduceBEq, ↓wrap_up, ↓wrap_down, ↓wrap_pred, ↓wrap_sub_nat, Int.reduceToNat]
  refine W_count (M := (mskOf (pol1.mask 30) (pol1.gc 30) (pol1.acts 30) 0 6)) rfl g.ins.length (fun i => (⟨49, [(25, I i), (24, I g.ins.length), (1, .rf 0 1 0 0)], [.row 3 [prgAV g] 0]⟩ : St))
    (fun i => ∀ k p, k < i → g.ins[k]? = some p → okIns g.ins.length g.caps g.runes p = true) ?_ ?_ (fun k p h => by omega) _ (by first | rfl | (refine prep_cut rfl (by rfl) (by rfl) (by rfl) ?_ ?_ <;> simp [AV.underL, AV.under, MB.under, underL_plain, under_plain, plain_ints, plain_span, plain_ins, plain_prg, -List.map_take]))
  · intro i hi hg
    obtain ⟨p, hp⟩ : ∃ p, g.ins[i]? = some p := ⟨_, List.getElem?_eq_getElem hi⟩
    have hsp := hs p (List.mem_of_getElem? hp)
    have hf := f69 g p (by omega) hl hsp
    cases hok : okIns g.ins.length g.caps g.runes p
    · rw [hok] at hf
      simp +contextual (disch := omega) only [Try.f30, dd30, go_sem, ↓reduceIte, List.reduceReplicate, Nat.reduceAdd, Nat.reduceSub, reduceCtorEq, Nat.reduceLeDiff, Nat.reduceMul, Nat.reduceLT, Nat.reduceEqDiff, Int.reduceBNe, Int.reduceBEq, Int.reduceEq, Int.reduceLT, Int.reduceLE, Int.reduceGT, Int.reduceGE, mu30, Nat.reduceBEq, ↓wrap_up, ↓wrap_down, ↓wrap_pred, ↓wrap_sub_nat, Int.reduceToNat, hp, hf]
      refine ⟨by unfold dOk; kernel_rfl, fzEq rfl ?_⟩
      rw [validG_bad h1 hp hok]
    · rw [hok] at hf
      simp +contextual (disch := omega) only [Try.f30, dd30, go_sem, ↓reduceIte, List.reduceReplicate, Nat.reduceAdd, Nat.reduceSub, reduceCtorEq, Nat.reduceLeDiff, Nat.reduceMul, Nat.reduceLT, Nat.reduceEqDiff, Int.reduceBNe, Int.reduceBEq, Int.reduceEq, Int.reduceLT, Int.reduceLE, Int.reduceGT, Int.reduceGE, mu30, Nat.reduceBEq, ↓wrap_up, ↓wrap_down, ↓wrap_pred, ↓wrap_sub_nat, Int.reduceToNat, hp, hf]
      refine ⟨by unfold dOk; kernel_rfl, fun k q hk hq => ?_, (by first | rfl | (refine prep_cut rfl (by rfl) (by rfl) (by rfl) ?_ ?_ <;> simp [AV.underL, AV.under, MB.under, underL_plain, under_plain, plain_ints, plain_span, plain_ins, plain_prg, -List.map_take]))⟩
      rcases Nat.lt_or_ge k i with h | h
      · exact hg k q h hq
      · obtain rfl : k = i := by omega
        rw [hp] at hq
        obtain rfl := Option.some.inj hq
        exact hok
  · intro hg
    rw [validG_last h1 h2 (fun k p hk hp => hg k p hk hp)]
    obtain ⟨p, hp⟩ : ∃ p, g.ins[g.ins.length - 1]? = some p := ⟨_, List.getElem?_eq_getElem (by omega)⟩
    have e : lastGood g = (p.op == 0 || p.op == 2 || p.op == 3) := by simp [lastGood, hp]
    rw [e]
    simp +contextual (disch := omega) only [Try.f30, dd30, go_sem, ↓reduceIte, List.reduceReplicate, Nat.reduceAdd, Nat.reduceSub, reduceCtorEq, Nat.reduceLeDiff, Nat.reduceMul, Nat.reduceLT, Nat.reduceEqDiff, Int.reduceBNe, Int.reduceBEq, Int.reduceEq, Int.reduceLT, Int.reduceLE, Int.reduceGT, Int.reduceGE, mu30, Nat.reduceBEq, ↓wrap_up, ↓wrap_down, ↓wrap_pred, ↓wrap_sub_nat, Int.reduceToNat, hp]
    repeat' (first | intro _ | apply And.intro | refine fzEq rfl ?_)
    all_goals (congr 1 <;> simp <;> omega)

/-- The errors of Paths, in their order. -/
def checkG (g : Prg) (n : Nat) (pos most fuel : Int) : Int :=
  if validG g ≠ 0 then validG g
  else if 65536 < n then 4
  else if pos < 0 ∨ (n : Int) < pos ∨ most < -1 then 5
  else if fuel < 0 ∨ 1099511627776 < fuel then 1 else 0

theorem f58 (g : Prg) (hb : PrgB g) (t : List Int) (ht : t.length ≤ 1000000000) (pos most fuel : Int) (H : List MB) :
    call Try.prog pol1 58 [.agg [.sl false (g.ins.map insAV), I g.caps, .bool g.runes], .sl false (t.map I), I pos, I most, I fuel] H = some (I (checkG g t.length pos most fuel), H) := by
  refine call_run Try.func58 rfl rfl rfl rfl rfl rfl (fun _ => rfl) (by simp [AV.plain, AV.plainL, plain_ints, plain_span, plain_ins, plain_prg]) (by simp [AV.plain, AV.plainL, plain_ints, plain_span, plain_ins, plain_prg]) ?_ H
  have hv := f30 g hb
  unfold checkG
  by_cases h1 : validG g = 0
  · rw [h1] at hv
    rw [if_neg (by simp [h1])]
    simp +contextual (disch := omega) only [Try.f58, dd58, go_sem, ↓reduceIte, List.reduceReplicate, Nat.reduceAdd, Nat.reduceSub, reduceCtorEq, Nat.reduceLeDiff, Nat.reduceMul, Nat.reduceLT, Nat.reduceEqDiff, Int.reduceBNe, Int.reduceBEq, Int.reduceEq, Int.reduceLT, Int.reduceLE, Int.reduceGT, Int.reduceGE, mu58, Nat.reduceBEq, ↓wrap_up, ↓wrap_down, ↓wrap_pred, ↓wrap_sub_nat, Int.reduceToNat, hv]
    repeat' (first | intro _ | apply And.intro | refine fzEq rfl (congrArg (AV.int .i64) ?_))
    all_goals (repeat' split)
    all_goals first | omega | (simp_all; done) | (simp_all; omega)
  · rw [if_pos h1]
    simp +contextual (disch := omega) only [Try.f58, dd58, go_sem, ↓reduceIte, List.reduceReplicate, Nat.reduceAdd, Nat.reduceSub, reduceCtorEq, Nat.reduceLeDiff, Nat.reduceMul, Nat.reduceLT, Nat.reduceEqDiff, Int.reduceBNe, Int.reduceBEq, Int.reduceEq, Int.reduceLT, Int.reduceLE, Int.reduceGT, Int.reduceGE, mu58, Nat.reduceBEq, ↓wrap_up, ↓wrap_down, ↓wrap_pred, ↓wrap_sub_nat, Int.reduceToNat, hv]
    exact fzEq rfl rfl

theorem fz_prg (g : Prg) : fz (.rf 0 1 0 0) [.row 3 [.agg [.sl false (g.ins.map insAV), I g.caps, .bool g.runes]] 0] = some (.pt [.sl false (g.ins.map insAV), I g.caps, .bool g.runes], [.row 3 [.agg [.sl false (g.ins.map insAV), I g.caps, .bool g.runes]] 1]) := by
  have hp : AV.plainL [AV.sl false (g.ins.map insAV), I g.caps, .bool g.runes] = true := by simp [AV.plain, AV.plainL, plain_ins]
  exact fz_rf (x := .agg [.sl false (g.ins.map insAV), I g.caps, .bool g.runes]) (k := 3) (z := 0) rfl rfl rfl hp

theorem f23e (g : Prg) (hb : PrgB g) (t : List Int) (ht : t.length ≤ 1000000000) (pos most fuel : Int) (he : checkG g t.length pos most fuel ≠ 0) (H : List MB) :
    call Try.prog pol1 23 [.agg [.sl false (g.ins.map insAV), I g.caps, .bool g.runes], .sl false (t.map I), I pos, I most, I fuel] H = some (.tup [.sl false [], I (checkG g t.length pos most fuel)], H) := by
  refine call_run Try.func23 rfl rfl rfl rfl rfl rfl (fun _ => rfl) (by simp [AV.plain, AV.plainL, plain_ints, plain_span, plain_ins, plain_prg]) (by simp [AV.plain, AV.plainL, plain_ints, plain_span, plain_ins, plain_prg]) ?_ H
  have hc := f58 g hb t ht pos most fuel
  generalize checkG g t.length pos most fuel = c at *
  have hz := fz_prg g
  simp +contextual (disch := omega) only [Try.f23, dd23, go_sem, ↓reduceIte, List.reduceReplicate, Nat.reduceAdd, Nat.reduceSub, reduceCtorEq, Nat.reduceLeDiff, Nat.reduceMul, Nat.reduceLT, Nat.reduceEqDiff, Int.reduceBNe, Int.reduceBEq, Int.reduceEq, Int.reduceLT, Int.reduceLE, Int.reduceGT, Int.reduceGE, mu23, Nat.reduceBEq, ↓wrap_up, ↓wrap_down, ↓wrap_pred, ↓wrap_sub_nat, Int.reduceToNat, hc, hz, lookD, look]
  exact ⟨_, rfl⟩
end
section
attribute [local go_sem] ty4 ty22 ty36 ty41
open Go.Proofs Go.RowKit Go.IntWalk
set_option maxRecDepth 100000
set_option linter.unusedSimpArgs false
set_option linter.unusedVariables false
set_option maxHeartbeats 4000000

theorem f62 (g : Prg) (hb : PrgB g) (t : List Int) (ht : t.length ≤ 1000000000) (pos most fuel : Int) (H : List MB) :
    call Try.prog pol1 62 [.agg [.sl false (g.ins.map insAV), I g.caps, .bool g.runes], .sl false (t.map I), I pos, I most, I fuel] H = some (I (checkG g t.length pos most fuel), H) := by
  refine call_run Try.func62 rfl rfl rfl rfl rfl rfl (fun _ => rfl) (by simp [AV.plain, AV.plainL, plain_ints, plain_span, plain_ins, plain_prg]) (by simp [AV.plain, AV.plainL, plain_ints, plain_span, plain_ins, plain_prg]) ?_ H
  have hv := f29 g hb
  unfold checkG
  by_cases h1 : validG g = 0
  · rw [h1] at hv
    rw [if_neg (by simp [h1])]
    simp +contextual (disch := omega) only [Try.f62, dd62, go_sem, ↓reduceIte, List.reduceReplicate, Nat.reduceAdd, Nat.reduceSub, reduceCtorEq, Nat.reduceLeDiff, Nat.reduceMul, Nat.reduceLT, Nat.reduceEqDiff, Int.reduceBNe, Int.reduceBEq, Int.reduceEq, Int.reduceLT, Int.reduceLE, Int.reduceGT, Int.reduceGE, mu62, Nat.reduceBEq, ↓wrap_up, ↓wrap_down, ↓wrap_pred, ↓wrap_sub_nat, Int.reduceToNat, hv]
    repeat' (first | intro _ | apply And.intro | refine fzEq rfl (congrArg (AV.int .i64) ?_))
    all_goals (repeat' split)
    all_goals first | omega | (simp_all; done) | (simp_all; omega)
  · rw [if_pos h1]
    simp +contextual (disch := omega) only [Try.f62, dd62, go_sem, ↓reduceIte, List.reduceReplicate, Nat.reduceAdd, Nat.reduceSub, reduceCtorEq, Nat.reduceLeDiff, Nat.reduceMul, Nat.reduceLT, Nat.reduceEqDiff, Int.reduceBNe, Int.reduceBEq, Int.reduceEq, Int.reduceLT, Int.reduceLE, Int.reduceGT, Int.reduceGE, mu62, Nat.reduceBEq, ↓wrap_up, ↓wrap_down, ↓wrap_pred, ↓wrap_sub_nat, Int.reduceToNat, hv]
    exact fzEq rfl rfl

end
section
attribute [local go_sem] ty4 ty23 ty86
open Go.Proofs Go.RowKit Go.IntWalk
set_option maxRecDepth 100000
set_option linter.unusedSimpArgs false
set_option linter.unusedVariables false
set_option maxHeartbeats 4000000

def hasSpan (l : List (Int × Int)) (x : Int) : Bool := l.any fun p => decide (p.1 ≤ x) && decide (x ≤ p.2)
theorem hasSpan_at {l : List (Int × Int)} {x : Int} {i : Nat} {p : Int × Int} (h : l[i]? = some p) (hp : p.1 ≤ x ∧ x ≤ p.2) : hasSpan l x = true := by
  unfold hasSpan
  exact List.any_eq_true.2 ⟨p, List.mem_of_getElem? h, by simp [hp]⟩
theorem hasSpan_no {l : List (Int × Int)} {x : Int} (h : ∀ k p, k < l.length → l[k]? = some p → ¬ (p.1 ≤ x ∧ x ≤ p.2)) : hasSpan l x = false := by
  unfold hasSpan
  rw [List.any_eq_false]
  intro p hp
  obtain ⟨k, hk, e⟩ := List.getElem_of_mem hp
  have := h k p hk (by rw [← e]; exact List.getElem?_eq_getElem hk)
  simpa using this

theorem f64 (l : List (Int × Int)) (x : Int) (hl : l.length ≤ 1000000) (H : List MB) : call Try.prog pol1 64 [.sl false (l.map spanAV), I x] H = some (.bool (hasSpan l x), H) := by
  refine call_run Try.func64 rfl rfl rfl rfl rfl rfl (fun _ => rfl) (by simp [AV.plain, AV.plainL, plain_ints, plain_span, plain_ins, plain_prg]) (by simp [AV.plain, AV.plainL, plain_ints, plain_span, plain_ins, plain_prg]) ?_ H
  simp +contextual (disch := omega) only [Try.f64, dd64, go_sem, ↓reduceIte, List.reduceReplicate, Nat.reduceAdd, Nat.reduceSub, reduceCtorEq, Nat.reduceLeDiff, Nat.reduceMul, Nat.reduceLT, Nat.reduceEqDiff, Int.reduceBNe, Int.reduceBEq, Int.reduceEq, Int.reduceLT, Int.reduceLE, Int.reduceGT, Int.reduceGE, mu64, Nat.reduceBEq, ↓wrap_up, ↓wrap_down, ↓wrap_pred, ↓wrap_sub_nat, Int.reduceToNat]
  refine W_count (M := (mskOf (pol1.mask 64) (pol1.gc 64) (pol1.acts 64) 0 2)) rfl l.length (fun i => (⟨28, [(5, I i), (1, I x), (0, .sl false (l.map spanAV))], []⟩ : St)) (fun i => ∀ k p, k < i → l[k]? = some p → ¬ (p.1 ≤ x ∧ x ≤ p.2)) ?_ ?_ (fun k p h => by omega) _ (by first | rfl | (refine prep_cut rfl (by rfl) (by rfl) (by rfl) ?_ ?_ <;> simp [AV.underL, AV.under, MB.under, underL_plain, under_plain, plain_ints, plain_span, plain_ins, plain_prg, -List.map_take]))
  · intro i hi hg
    obtain ⟨p, hp⟩ : ∃ p, l[i]? = some p := ⟨_, List.getElem?_eq_getElem hi⟩
    by_cases hin : p.1 ≤ x ∧ x ≤ p.2
    · rw [hasSpan_at hp hin]
      simp +contextual (disch := omega) only [Try.f64, dd64, go_sem, ↓reduceIte, List.reduceReplicate, Nat.reduceAdd, Nat.reduceSub, reduceCtorEq, Nat.reduceLeDiff, Nat.reduceMul, Nat.reduceLT, Nat.reduceEqDiff, Int.reduceBNe, Int.reduceBEq, Int.reduceEq, Int.reduceLT, Int.reduceLE, Int.reduceGT, Int.reduceGE, mu64, Nat.reduceBEq, ↓wrap_up, ↓wrap_down, ↓wrap_pred, ↓wrap_sub_nat, Int.reduceToNat, hp, spanAV]
      exact fzEq rfl rfl
    · have ext : ∀ k q, k < i + 1 → l[k]? = some q → ¬ (q.1 ≤ x ∧ x ≤ q.2) := fun k q hk hq => by
        rcases Nat.lt_or_ge k i with h | h
        · exact hg k q h hq
        · obtain rfl : k = i := by omega
          rw [hp] at hq
          obtain rfl := Option.some.inj hq
          exact hin
      by_cases h1 : p.1 ≤ x
      · simp +contextual (disch := omega) only [Try.f64, dd64, go_sem, ↓reduceIte, List.reduceReplicate, Nat.reduceAdd, Nat.reduceSub, reduceCtorEq, Nat.reduceLeDiff, Nat.reduceMul, Nat.reduceLT, Nat.reduceEqDiff, Int.reduceBNe, Int.reduceBEq, Int.reduceEq, Int.reduceLT, Int.reduceLE, Int.reduceGT, Int.reduceGE, mu64, Nat.reduceBEq, ↓wrap_up, ↓wrap_down, ↓wrap_pred, ↓wrap_sub_nat, Int.reduceToNat, hp, spanAV]
        exact ⟨ext, (by first | rfl | (refine prep_cut rfl (by rfl) (by rfl) (by rfl) ?_ ?_ <;> simp [AV.underL, AV.under, MB.under, underL_plain, under_plain, plain_ints, plain_span, plain_ins, plain_prg, -List.map_take]))⟩
      · simp +contextual (disch := omega) only [Try.f64, dd64, go_sem, ↓reduceIte, List.reduceReplicate, Nat.reduceAdd, Nat.reduceSub, reduceCtorEq, Nat.reduceLeDiff, Nat.reduceMul, Nat.reduceLT, Nat.reduceEqDiff, Int.reduceBNe, Int.reduceBEq, Int.reduceEq, Int.reduceLT, Int.reduceLE, Int.reduceGT, Int.reduceGE, mu64, Nat.reduceBEq, ↓wrap_up, ↓wrap_down, ↓wrap_pred, ↓wrap_sub_nat, Int.reduceToNat, hp, spanAV]
        exact ⟨ext, (by first | rfl | (refine prep_cut rfl (by rfl) (by rfl) (by rfl) ?_ ?_ <;> simp [AV.underL, AV.under, MB.under, underL_plain, under_plain, plain_ints, plain_span, plain_ins, plain_prg, -List.map_take]))⟩
  · intro hg
    rw [hasSpan_no hg]
    simp +contextual (disch := omega) only [Try.f64, dd64, go_sem, ↓reduceIte, List.reduceReplicate, Nat.reduceAdd, Nat.reduceSub, reduceCtorEq, Nat.reduceLeDiff, Nat.reduceMul, Nat.reduceLT, Nat.reduceEqDiff, Int.reduceBNe, Int.reduceBEq, Int.reduceEq, Int.reduceLT, Int.reduceLE, Int.reduceGT, Int.reduceGE, mu64, Nat.reduceBEq, ↓wrap_up, ↓wrap_down, ↓wrap_pred, ↓wrap_sub_nat, Int.reduceToNat]
    exact fzEq rfl rfl
theorem f43 (l : List (Int × Int)) (x : Int) (hl : l.length ≤ 1000000) (H : List MB) : call Try.prog pol1 43 [.sl false (l.map spanAV), I x] H = some (.bool (hasSpan l x), H) := by
  refine call_run Try.func43 rfl rfl rfl rfl rfl rfl (fun _ => rfl) (by simp [AV.plain, AV.plainL, plain_ints, plain_span, plain_ins, plain_prg]) (by simp [AV.plain, AV.plainL, plain_ints, plain_span, plain_ins, plain_prg]) ?_ H
  simp +contextual (disch := omega) only [Try.f43, dd43, go_sem, ↓reduceIte, List.reduceReplicate, Nat.reduceAdd, Nat.reduceSub, reduceCtorEq, Nat.reduceLeDiff, Nat.reduceMul, Nat.reduceLT, Nat.reduceEqDiff, Int.reduceBNe, Int.reduceBEq, Int.reduceEq, Int.reduceLT, Int.reduceLE, Int.reduceGT, Int.reduceGE, mu43, Nat.reduceBEq, ↓wrap_up, ↓wrap_down, ↓wrap_pred, ↓wrap_sub_nat, Int.reduceToNat]
  refine W_count (M := (mskOf (pol1.mask 43) (pol1.gc 43) (pol1.acts 43) 0 2)) rfl l.length (fun i => (⟨24, [(9, I i), (8, I l.length), (7, .sl false (l.map spanAV)), (1, I x)], []⟩ : St)) (fun i => ∀ k p, k < i → l[k]? = some p → ¬ (p.1 ≤ x ∧ x ≤ p.2)) ?_ ?_ (fun k p h => by omega) _ (by first | rfl | (refine prep_cut rfl (by rfl) (by rfl) (by rfl) ?_ ?_ <;> simp [AV.underL, AV.under, MB.under, underL_plain, under_plain, plain_ints, plain_span, plain_ins, plain_prg, -List.map_take]))
  · intro i hi hg
    obtain ⟨p, hp⟩ : ∃ p, l[i]? = some p := ⟨_, List.getElem?_eq_getElem hi⟩
    by_cases hin : p.1 ≤ x ∧ x ≤ p.2
    · rw [hasSpan_at hp hin]
      simp +contextual (disch := omega) only [Try.f43, dd43, go_sem, ↓reduceIte, List.reduceReplicate, Nat.reduceAdd, Nat.reduceSub, reduceCtorEq, Nat.reduceLeDiff, Nat.reduceMul, Nat.reduceLT, Nat.reduceEqDiff, Int.reduceBNe, Int.reduceBEq, Int.reduceEq, Int.reduceLT, Int.reduceLE, Int.reduceGT, Int.reduceGE, mu43, Nat.reduceBEq, ↓wrap_up, ↓wrap_down, ↓wrap_pred, ↓wrap_sub_nat, Int.reduceToNat, hp, spanAV]
      exact fzEq rfl rfl
    · have ext : ∀ k q, k < i + 1 → l[k]? = some q → ¬ (q.1 ≤ x ∧ x ≤ q.2) := fun k q hk hq => by
        rcases Nat.lt_or_ge k i with h | h
        · exact hg k q h hq
        · obtain rfl : k = i := by omega
          rw [hp] at hq
          obtain rfl := Option.some.inj hq
          exact hin
      by_cases h1 : p.1 ≤ x
      · simp +contextual (disch := omega) only [Try.f43, dd43, go_sem, ↓reduceIte, List.reduceReplicate, Nat.reduceAdd, Nat.reduceSub, reduceCtorEq, Nat.reduceLeDiff, Nat.reduceMul, Nat.reduceLT, Nat.reduceEqDiff, Int.reduceBNe, Int.reduceBEq, Int.reduceEq, Int.reduceLT, Int.reduceLE, Int.reduceGT, Int.reduceGE, mu43, Nat.reduceBEq, ↓wrap_up, ↓wrap_down, ↓wrap_pred, ↓wrap_sub_nat, Int.reduceToNat, hp, spanAV]
        exact ⟨ext, (by first | rfl | (refine prep_cut rfl (by rfl) (by rfl) (by rfl) ?_ ?_ <;> simp [AV.underL, AV.under, MB.under, underL_plain, under_plain, plain_ints, plain_span, plain_ins, plain_prg, -List.map_take]))⟩
      · simp +contextual (disch := omega) only [Try.f43, dd43, go_sem, ↓reduceIte, List.reduceReplicate, Nat.reduceAdd, Nat.reduceSub, reduceCtorEq, Nat.reduceLeDiff, Nat.reduceMul, Nat.reduceLT, Nat.reduceEqDiff, Int.reduceBNe, Int.reduceBEq, Int.reduceEq, Int.reduceLT, Int.reduceLE, Int.reduceGT, Int.reduceGE, mu43, Nat.reduceBEq, ↓wrap_up, ↓wrap_down, ↓wrap_pred, ↓wrap_sub_nat, Int.reduceToNat, hp, spanAV]
        exact ⟨ext, (by first | rfl | (refine prep_cut rfl (by rfl) (by rfl) (by rfl) ?_ ?_ <;> simp [AV.underL, AV.under, MB.under, underL_plain, under_plain, plain_ints, plain_span, plain_ins, plain_prg, -List.map_take]))⟩
  · intro hg
    rw [hasSpan_no hg]
    simp +contextual (disch := omega) only [Try.f43, dd43, go_sem, ↓reduceIte, List.reduceReplicate, Nat.reduceAdd, Nat.reduceSub, reduceCtorEq, Nat.reduceLeDiff, Nat.reduceMul, Nat.reduceLT, Nat.reduceEqDiff, Int.reduceBNe, Int.reduceBEq, Int.reduceEq, Int.reduceLT, Int.reduceLE, Int.reduceGT, Int.reduceGE, mu43, Nat.reduceBEq, ↓wrap_up, ↓wrap_down, ↓wrap_pred, ↓wrap_sub_nat, Int.reduceToNat]
    exact fzEq rfl rfl

def wordI (x : Int) : Bool := (decide (97 ≤ x) && decide (x ≤ 122)) || (decide (65 ≤ x) && decide (x ≤ 90)) || (decide (48 ≤ x) && decide (x ≤ 57)) || x == 95
theorem f117 (x : Int) (H : List MB) : call Try.prog pol1 117 [I x] H = some (.bool (wordI x), H) := by
  refine call_run Try.func117 rfl rfl rfl rfl rfl rfl (fun _ => rfl) (by simp [AV.plain, AV.plainL, plain_ints, plain_span, plain_ins, plain_prg]) (by simp [AV.plain, AV.plainL, plain_ints, plain_span, plain_ins, plain_prg]) ?_ H
  simp +contextual (disch := omega) only [Try.f117, dd117, go_sem, ↓reduceIte, List.reduceReplicate, Nat.reduceAdd, Nat.reduceSub, reduceCtorEq, Nat.reduceLeDiff, Nat.reduceMul, Nat.reduceLT, Nat.reduceEqDiff, Int.reduceBNe, Int.reduceBEq, Int.reduceEq, Int.reduceLT, Int.reduceLE, Int.reduceGT, Int.reduceGE, mu117, Nat.reduceBEq, ↓wrap_up, ↓wrap_down, ↓wrap_pred, ↓wrap_sub_nat, Int.reduceToNat]
  repeat' (first | intro _ | apply And.intro | refine fzEq rfl (congrArg AV.bool ?_))
  all_goals (rw [Bool.eq_iff_iff]; simp [wordI] <;> omega)
theorem f118 (x : Int) (H : List MB) : call Try.prog pol1 118 [I x] H = some (.bool (wordI x), H) := by
  refine call_run Try.func118 rfl rfl rfl rfl rfl rfl (fun _ => rfl) (by simp [AV.plain, AV.plainL, plain_ints, plain_span, plain_ins, plain_prg]) (by simp [AV.plain, AV.plainL, plain_ints, plain_span, plain_ins, plain_prg]) ?_ H
  simp +contextual (disch := omega) only [Try.f118, dd118, go_sem, ↓reduceIte, List.reduceReplicate, Nat.reduceAdd, Nat.reduceSub, reduceCtorEq, Nat.reduceLeDiff, Nat.reduceMul, Nat.reduceLT, Nat.reduceEqDiff, Int.reduceBNe, Int.reduceBEq, Int.reduceEq, Int.reduceLT, Int.reduceLE, Int.reduceGT, Int.reduceGE, mu118, Nat.reduceBEq, ↓wrap_up, ↓wrap_down, ↓wrap_pred, ↓wrap_sub_nat, Int.reduceToNat]
  repeat' (first | intro _ | apply And.intro | refine fzEq rfl (congrArg AV.bool ?_))
  all_goals (rw [Bool.eq_iff_iff]; simp [wordI] <;> omega)
end
section
attribute [local go_sem] ty4 ty22
open Go.Proofs Go.RowKit Go.IntWalk
set_option maxRecDepth 100000
set_option linter.unusedSimpArgs false
set_option linter.unusedVariables false
set_option maxHeartbeats 4000000

/-- Before and behind a position: is there a symbol, and which. -/
def assertI (n : Int) (b a : Option Int) : Bool :=
  let w := fun (o : Option Int) => match o with
    | some x => wordI x
    | none => false
  let e := fun (o : Option Int) => match o with
    | some x => x == 10
    | none => true
  if n = 0 then b.isNone else if n = 1 then a.isNone else if n = 2 then e b else if n = 3 then e a else if n = 4 then w b != w a else if n = 5 then w b == w a else false
def befS (t : List Int) (k : Nat) : Option Int := if k = 0 then none else t[k - 1]?

theorem f66 (n : Int) (t : List Int) (k : Nat) (hk : k ≤ t.length) (ht : t.length ≤ 1000000000) (H : List MB) : call Try.prog pol1 66 [I n, .sl false (t.map I), I k] H = some (.bool (assertI n (befS t k) t[k]?), H) := by
  refine call_run Try.func66 rfl rfl rfl rfl rfl rfl (fun _ => rfl) (by simp [AV.plain, AV.plainL, plain_ints, plain_span, plain_ins, plain_prg]) (by simp [AV.plain, AV.plainL, plain_ints, plain_span, plain_ins, plain_prg]) ?_ H
  rcases k with _ | k
  · rcases t with _ | ⟨x, t⟩
    · simp +contextual (disch := omega) only [Try.f66, dd66, go_sem, ↓reduceIte, List.reduceReplicate, Nat.reduceAdd, Nat.reduceSub, reduceCtorEq, Nat.reduceLeDiff, Nat.reduceMul, Nat.reduceLT, Nat.reduceEqDiff, Int.reduceBNe, Int.reduceBEq, Int.reduceEq, Int.reduceLT, Int.reduceLE, Int.reduceGT, Int.reduceGE, mu66, Nat.reduceBEq, ↓wrap_up, ↓wrap_down, ↓wrap_pred, ↓wrap_sub_nat, Int.reduceToNat, f118]
      repeat' (first | intro _ | apply And.intro | (unfold dOk; kernel_rfl) | (show (_ && _) = true; kernel_rfl) | (show (_ || _) = true; kernel_rfl) | refine fzEq rfl (congrArg AV.bool ?_))
      all_goals (simp_all [assertI, befS])
    · simp +contextual (disch := omega) only [Try.f66, dd66, go_sem, ↓reduceIte, List.reduceReplicate, Nat.reduceAdd, Nat.reduceSub, reduceCtorEq, Nat.reduceLeDiff, Nat.reduceMul, Nat.reduceLT, Nat.reduceEqDiff, Int.reduceBNe, Int.reduceBEq, Int.reduceEq, Int.reduceLT, Int.reduceLE, Int.reduceGT, Int.reduceGE, mu66, Nat.reduceBEq, ↓wrap_up, ↓wrap_down, ↓wrap_pred, ↓wrap_sub_nat, Int.reduceToNat, f118]
      repeat' (first | intro _ | apply And.intro | (unfold dOk; kernel_rfl) | (show (_ && _) = true; kernel_rfl) | (show (_ || _) = true; kernel_rfl) | refine fzEq rfl (congrArg AV.bool ?_))
      all_goals (simp_all [assertI, befS])
  · obtain ⟨p, hp⟩ : ∃ p, t[k]? = some p := ⟨_, List.getElem?_eq_getElem (by omega)⟩
    have hbf : befS t (k + 1) = some p := by simp [befS, hp]
    rw [hbf]
    by_cases he : k + 1 = t.length
    · have hq : t[k + 1]? = none := List.getElem?_eq_none (by omega)
      rw [hq]
      simp +contextual (disch := omega) only [Try.f66, dd66, go_sem, ↓reduceIte, List.reduceReplicate, Nat.reduceAdd, Nat.reduceSub, reduceCtorEq, Nat.reduceLeDiff, Nat.reduceMul, Nat.reduceLT, Nat.reduceEqDiff, Int.reduceBNe, Int.reduceBEq, Int.reduceEq, Int.reduceLT, Int.reduceLE, Int.reduceGT, Int.reduceGE, mu66, Nat.reduceBEq, ↓wrap_up, ↓wrap_down, ↓wrap_pred, ↓wrap_sub_nat, Int.reduceToNat, f118, hp]
      repeat' (first | intro _ | apply And.intro | (unfold dOk; kernel_rfl) | (show (_ && _) = true; kernel_rfl) | (show (_ || _) = true; kernel_rfl) | refine fzEq rfl (congrArg AV.bool ?_))
      all_goals (simp_all [assertI])
    · obtain ⟨q, hq⟩ : ∃ q, t[k + 1]? = some q := ⟨_, List.getElem?_eq_getElem (by omega)⟩
      rw [hq]
      simp +contextual (disch := omega) only [Try.f66, dd66, go_sem, ↓reduceIte, List.reduceReplicate, Nat.reduceAdd, Nat.reduceSub, reduceCtorEq, Nat.reduceLeDiff, Nat.reduceMul, Nat.reduceLT, Nat.reduceEqDiff, Int.reduceBNe, Int.reduceBEq, Int.reduceEq, Int.reduceLT, Int.reduceLE, Int.reduceGT, Int.reduceGE, mu66, Nat.reduceBEq, ↓wrap_up, ↓wrap_down, ↓wrap_pred, ↓wrap_sub_nat, Int.reduceToNat, f118, hp, hq]
      repeat' (first | intro _ | apply And.intro | (unfold dOk; kernel_rfl) | (show (_ && _) = true; kernel_rfl) | (show (_ || _) = true; kernel_rfl) | refine fzEq rfl (congrArg AV.bool ?_))
      all_goals first | (simp_all [assertI]; done) | (simp_all [assertI]; cases wordI p <;> cases wordI q <;> rfl)
end
section
attribute [local go_sem] ty4 ty22
open Go.Proofs Go.RowKit Go.IntWalk
set_option maxRecDepth 100000
set_option linter.unusedSimpArgs false
set_option linter.unusedVariables false
set_option maxHeartbeats 4000000

theorem f61 (n : Int) (t : List Int) (k : Nat) (hk : k ≤ t.length) (ht : t.length ≤ 1000000000) (H : List MB) : call Try.prog pol1 61 [I n, .sl false (t.map I), I k] H = some (.bool (assertI n (befS t k) t[k]?), H) := by
  refine call_run Try.func61 rfl rfl rfl rfl rfl rfl (fun _ => rfl) (by simp [AV.plain, AV.plainL, plain_ints, plain_span, plain_ins, plain_prg]) (by simp [AV.plain, AV.plainL, plain_ints, plain_span, plain_ins, plain_prg]) ?_ H
  rcases k with _ | k
  · rcases t with _ | ⟨x, t⟩
    · simp +contextual (disch := omega) only [Try.f61, dd61, go_sem, ↓reduceIte, List.reduceReplicate, Nat.reduceAdd, Nat.reduceSub, reduceCtorEq, Nat.reduceLeDiff, Nat.reduceMul, Nat.reduceLT, Nat.reduceEqDiff, Int.reduceBNe, Int.reduceBEq, Int.reduceEq, Int.reduceLT, Int.reduceLE, Int.reduceGT, Int.reduceGE, mu61, Nat.reduceBEq, ↓wrap_up, ↓wrap_down, ↓wrap_pred, ↓wrap_sub_nat, Int.reduceToNat, f117]
      repeat' (first | intro _ | apply And.intro | (unfold dOk; kernel_rfl) | (show (_ && _) = true; kernel_rfl) | (show (_ || _) = true; kernel_rfl) | refine fzEq rfl (congrArg AV.bool ?_))
      all_goals (simp_all [assertI, befS])
    · simp +contextual (disch := omega) only [Try.f61, dd61, go_sem, ↓reduceIte, List.reduceReplicate, Nat.reduceAdd, Nat.reduceSub, reduceCtorEq, Nat.reduceLeDiff, Nat.reduceMul, Nat.reduceLT, Nat.reduceEqDiff, Int.reduceBNe, Int.reduceBEq, Int.reduceEq, Int.reduceLT, Int.reduceLE, Int.reduceGT, Int.reduceGE, mu61, Nat.reduceBEq, ↓wrap_up, ↓wrap_down, ↓wrap_pred, ↓wrap_sub_nat, Int.reduceToNat, f117]
      repeat' (first | intro _ | apply And.intro | (unfold dOk; kernel_rfl) | (show (_ && _) = true; kernel_rfl) | (show (_ || _) = true; kernel_rfl) | refine fzEq rfl (congrArg AV.bool ?_))
      all_goals (simp_all [assertI, befS])
  · obtain ⟨p, hp⟩ : ∃ p, t[k]? = some p := ⟨_, List.getElem?_eq_getElem (by omega)⟩
    have hbf : befS t (k + 1) = some p := by simp [befS, hp]
    rw [hbf]
    by_cases he : k + 1 = t.length
    · have hq : t[k + 1]? = none := List.getElem?_eq_none (by omega)
      rw [hq]
      simp +contextual (disch := omega) only [Try.f61, dd61, go_sem, ↓reduceIte, List.reduceReplicate, Nat.reduceAdd, Nat.reduceSub, reduceCtorEq, Nat.reduceLeDiff, Nat.reduceMul, Nat.reduceLT, Nat.reduceEqDiff, Int.reduceBNe, Int.reduceBEq, Int.reduceEq, Int.reduceLT, Int.reduceLE, Int.reduceGT, Int.reduceGE, mu61, Nat.reduceBEq, ↓wrap_up, ↓wrap_down, ↓wrap_pred, ↓wrap_sub_nat, Int.reduceToNat, f117, hp]
      repeat' (first | intro _ | apply And.intro | (unfold dOk; kernel_rfl) | (show (_ && _) = true; kernel_rfl) | (show (_ || _) = true; kernel_rfl) | refine fzEq rfl (congrArg AV.bool ?_))
      all_goals (simp_all [assertI])
    · obtain ⟨q, hq⟩ : ∃ q, t[k + 1]? = some q := ⟨_, List.getElem?_eq_getElem (by omega)⟩
      rw [hq]
      simp +contextual (disch := omega) only [Try.f61, dd61, go_sem, ↓reduceIte, List.reduceReplicate, Nat.reduceAdd, Nat.reduceSub, reduceCtorEq, Nat.reduceLeDiff, Nat.reduceMul, Nat.reduceLT, Nat.reduceEqDiff, Int.reduceBNe, Int.reduceBEq, Int.reduceEq, Int.reduceLT, Int.reduceLE, Int.reduceGT, Int.reduceGE, mu61, Nat.reduceBEq, ↓wrap_up, ↓wrap_down, ↓wrap_pred, ↓wrap_sub_nat, Int.reduceToNat, f117, hp, hq]
      repeat' (first | intro _ | apply And.intro | (unfold dOk; kernel_rfl) | (show (_ && _) = true; kernel_rfl) | (show (_ || _) = true; kernel_rfl) | refine fzEq rfl (congrArg AV.bool ?_))
      all_goals first | (simp_all [assertI]; done) | (simp_all [assertI]; cases wordI p <;> cases wordI q <;> rfl)
end
section
attribute [local go_sem] ty22
open Go.Proofs Go.RowKit Go.IntWalk
set_option maxRecDepth 100000
set_option linter.unusedSimpArgs false
set_option linter.unusedVariables false
set_option maxHeartbeats 4000000

theorem all_int1 (l : List Int) : ((l.map I).all fun y => decide (y.cells.length = 1) && y.cells.all AV.ok) = true := by
  simp only [List.all_eq_true, List.mem_map, Bool.and_eq_true, decide_eq_true_eq]
  rintro _ ⟨i, _, rfl⟩
  exact ⟨rfl, fun x hx => by
    simp only [AV.cells, List.mem_singleton] at hx
    rw [hx]; rfl⟩
theorem fz_ints {id tot : Nat} {l : List Int} {H : List MB} (hr : getRow H id = some (1, l.map I, 0)) (hn : tot = l.length) :
    ∃ H', fz (.ms id 1 tot 0 tot) H = some (.sl false (l.map I), H') := by
  subst hn
  refine ⟨mark H id (0 + l.length), fzA_ms (n := 5) hr (by simp) (by simp) ?_⟩
  rw [List.drop_zero, List.take_of_length_le (by simp)]
  exact fzL_plain _ _ _ (plain_ints _)

theorem f65 (l : List Int) (i : Nat) (v : Int) (hi : i < l.length) (hl : l.length ≤ 1000000) (H : List MB) : call Try.prog pol1 65 [.sl false (l.map I), I i, I v] H = some (.sl false ((l.set i v).map I), H) := by
  refine call_run Try.func65 rfl rfl rfl rfl rfl rfl (fun _ => rfl) (by simp [AV.plain, AV.plainL, plain_ints]) (by simp only [AV.plain, plain_ints]; rfl) ?_ H
  cases l with
  | nil => simp at hi
  | cons x xs =>
    simp only [List.length_cons] at hi hl
    obtain ⟨p, hp⟩ : ∃ p, (x :: xs)[i]? = some p := ⟨_, List.getElem?_eq_getElem (by simpa using hi)⟩
    have hp' : (I x :: List.map I xs)[i]? = some (I p) := by
      have : ((x :: xs).map I)[i]? = some (I p) := by rw [List.getElem?_map, hp]; rfl
      exact this
    simp +contextual (disch := omega) only [Try.f65, dd65, go_sem, ↓reduceIte, List.reduceReplicate, Nat.reduceAdd, Nat.reduceSub, reduceCtorEq, Nat.reduceLeDiff, Nat.reduceMul, Nat.reduceLT, Nat.reduceEqDiff, Int.reduceBNe, Int.reduceBEq, Int.reduceEq, Int.reduceLT, Int.reduceLE, Int.reduceGT, Int.reduceGE, mu65, Nat.reduceBEq, ↓wrap_up, ↓wrap_down, ↓wrap_pred, ↓wrap_sub_nat, Int.reduceToNat, hp']
    refine ⟨all_int1 (x :: xs), by simp [roomFor]; omega, ?_⟩
    refine fz_ints ?_ (by simp)
    rw [List.map_set]
    rfl
end
section
attribute [local go_sem] tySzE List.head?_drop Nat.mul_one sameAt_zero sameAt_two sameAt_three sameAt_four sameAt_five room_ok ty4 ty22 ty110 ty112 ty129 ty174
open Go.Proofs Go.RowKit Go.IntWalk
set_option maxRecDepth 100000
set_option linter.unusedSimpArgs false
set_option linter.unusedVariables false
set_option maxHeartbeats 4000000

/-- A capture's span out of two registers. -/
def capP (a b : Int) : Int × Int := if a = -1 ∨ b = -1 then (-1, -1) else (a, b)
def capsN (regs : List Int) (n : Nat) : List (Int × Int) := (List.range n).map fun k => capP (regs.getD (2 * k) 0) (regs.getD (2 * k + 1) 0)
theorem capsN_succ (regs : List Int) (n : Nat) : capsN regs (n + 1) = capsN regs n ++ [capP (regs.getD (2 * n) 0) (regs.getD (2 * n + 1) 0)] := by
  simp [capsN, List.range_succ]
theorem capsN_len (regs : List Int) (n : Nat) : (capsN regs n).length = n := by simp [capsN]
def matAV (s e : Int) (caps : List (Int × Int)) : AV := .agg [I s, I e, .sl false (caps.map spanAV)]
theorem plain_mat (s e : Int) (caps : List (Int × Int)) : AV.plain (matAV s e caps) = true := by simp [matAV, AV.plain, AV.plainL, plain_span]

theorem f63 (pc pos start : Int) (regs : List Int) (n : Nat) (hr : regs.length = 2 * n) (hn : n ≤ 1000) (H : List MB) :
    call Try.prog pol1 63 [.agg [I pc, I pos, .sl false (regs.map I)], I start] H = some (matAV start pos (capsN regs n), H) := by
  refine call_run Try.func63 rfl rfl rfl rfl rfl rfl (fun _ => rfl) (by simp [AV.plain, AV.plainL, plain_ints]) (plain_mat _ _ _) ?_ H
  simp +contextual (disch := omega) only [Try.f63, dd63, go_sem, ↓reduceIte, List.reduceReplicate, Nat.reduceAdd, Nat.reduceSub, reduceCtorEq, Nat.reduceLeDiff, Nat.reduceMul, Nat.reduceLT, Nat.reduceEqDiff, Int.reduceBNe, Int.reduceBEq, Int.reduceEq, Int.reduceLT, Int.reduceLE, Int.reduceGT, Int.reduceGE, mu63, Nat.reduceBEq, ↓wrap_up, ↓wrap_down, ↓wrap_pred, ↓wrap_sub_nat, Int.reduceToNat]
  refine W_count (M := (mskOf (pol1.mask 63) (pol1.gc 63) (pol1.acts 63) 0 3)) rfl n (fun j => (⟨48, [(6, I ((2 * j : Nat) : Int)), (5, .rf 2 1 0 0), (4, .rf 1 1 0 0), (2, .rf 0 1 0 0)], [.row 3 [.agg [I pc, I pos, .sl false (regs.map I)]] 0, .row 3 [.agg [I 0, I 0, .sl true []]] 0,
      .row 3 [.agg [I start, I pos, .ms 3 2 j 0 j]] 0, .row 2 ((capsN regs j).map spanAV) 0]⟩ : St)) (fun _ => True) ?_ ?_ trivial _ (by first | rfl | (refine prep_cut rfl (by rfl) (by rfl) (by rfl) ?_ ?_ <;> simp [AV.underL, AV.under, MB.under, underL_plain, under_plain, plain_ints, plain_span, plain_ins, plain_prg, -List.map_take]))
  · intro j hj _
    obtain ⟨a, ha⟩ : ∃ a, regs[2 * j]? = some a := ⟨_, List.getElem?_eq_getElem (by omega)⟩
    obtain ⟨b, hb⟩ : ∃ b, regs[2 * j + 1]? = some b := ⟨_, List.getElem?_eq_getElem (by omega)⟩
    have hl := capsN_len regs j
    rw [capsN_succ, List.getD_eq_getElem?_getD, List.getD_eq_getElem?_getD, ha, hb]
    simp only [Option.getD_some]
    generalize capsN regs j = cs at *
    have htk := take_map_len (f := spanAV) hl
    have e2 : ((2 * j : Nat) : Int) + 2 = ((2 * (j + 1) : Nat) : Int) := by omega
    simp +contextual (disch := omega) only [Try.f63, dd63, go_sem, ↓reduceIte, List.reduceReplicate, Nat.reduceAdd, Nat.reduceSub, reduceCtorEq, Nat.reduceLeDiff, Nat.reduceMul, Nat.reduceLT, Nat.reduceEqDiff, Int.reduceBNe, Int.reduceBEq, Int.reduceEq, Int.reduceLT, Int.reduceLE, Int.reduceGT, Int.reduceGE, mu63, Nat.reduceBEq, ↓wrap_up, ↓wrap_down, ↓wrap_pred, ↓wrap_sub_nat, Int.reduceToNat, ha, hb, hl, htk, e2]
    repeat' (first | intro _ | apply And.intro | (unfold dOk; kernel_rfl) | exact St.beq_refl _ | (show altO _ _ _ _ = true; kernel_rfl) | (show (_ || _) = true; kernel_rfl) | (show (_ && _) = true; kernel_rfl))
    all_goals exact (by first | rfl | (refine prep_to (n := 4) (m := ⟨some [6, 5, 4, 2], some 4, []⟩) rfl rfl ?_ ?_ ?_ <;> first | rfl | (simp [keepT, AV.underL, AV.under, MB.under, underL_plain, under_plain, underL_append, plain_ints, plain_span, plain_ins, plain_prg, -List.map_take, -List.map_replicate, -List.map_set, capP, *]; done) | (simp [keepT, AV.underL, AV.under, MB.under, underL_plain, under_plain, underL_append, plain_ints, plain_span, plain_ins, plain_prg, -List.map_take, -List.map_replicate, -List.map_set, capP, *]; omega)))
  · intro _
    have hl := capsN_len regs n
    generalize capsN regs n = cs at *
    simp +contextual (disch := omega) only [Try.f63, dd63, go_sem, ↓reduceIte, List.reduceReplicate, Nat.reduceAdd, Nat.reduceSub, reduceCtorEq, Nat.reduceLeDiff, Nat.reduceMul, Nat.reduceLT, Nat.reduceEqDiff, Int.reduceBNe, Int.reduceBEq, Int.reduceEq, Int.reduceLT, Int.reduceLE, Int.reduceGT, Int.reduceGE, mu63, Nat.reduceBEq, ↓wrap_up, ↓wrap_down, ↓wrap_pred, ↓wrap_sub_nat, Int.reduceToNat, hr, hl]
    simp only [fz, fzA_agg, fzL, fzA_int]
    rw [fzA_row (els := cs.map spanAV) (k := 2) (z := 0) rfl (by simp [hl]) (plain_span cs)]
    exact ⟨_, rfl⟩
end
section
attribute [local go_sem] tySzE List.head?_drop Nat.mul_one sameAt_zero sameAt_two sameAt_three sameAt_four sameAt_five room_ok ty4 ty35 ty110 ty112 ty115 ty117 ty119 ty122 ty123 ty174
open Go.Proofs Go.RowKit Go.IntWalk
set_option maxRecDepth 100000
set_option linter.unusedSimpArgs false
set_option linter.unusedVariables false
set_option maxHeartbeats 4000000

/-- A way of package prog: next, at, idle, found; its registers. -/
abbrev wayAV (pc pos idle found : Int) (regs : List Int) : AV := .agg [I pc, I pos, I idle, I found, .pt (regs.map I)]
abbrev prgPt (g : Prg) : AV := .pt [.sl false (g.ins.map insAV), I g.caps, .bool g.runes]
theorem f60 (g : Prg) (pc pos idle found start : Int) (regs : List Int) (n : Nat) (hc : g.caps = n) (hr : regs.length = 18) (hn : n ≤ 9) (H : List MB) :
    call Try.prog pol1 60 [prgPt g, .pt [I pc, I pos, I idle, I found, .pt (regs.map I)], I start] H = some (matAV start pos (capsN regs n), H) := by
  refine call_run Try.func60 rfl rfl rfl rfl rfl rfl (fun _ => rfl) (by simp [AV.plain, AV.plainL, plain_ints, plain_ins]) (plain_mat _ _ _) ?_ H
  simp +contextual (disch := omega) only [Try.f60, dd60, go_sem, ↓reduceIte, List.reduceReplicate, Nat.reduceAdd, Nat.reduceSub, reduceCtorEq, Nat.reduceLeDiff, Nat.reduceMul, Nat.reduceLT, Nat.reduceEqDiff, Int.reduceBNe, Int.reduceBEq, Int.reduceEq, Int.reduceLT, Int.reduceLE, Int.reduceGT, Int.reduceGE, mu60, Nat.reduceBEq, ↓wrap_up, ↓wrap_down, ↓wrap_pred, ↓wrap_sub_nat, Int.reduceToNat, hc]
  refine W_count (M := (mskOf (pol1.mask 60) (pol1.gc 60) (pol1.acts 60) 0 3)) rfl n (fun j => (⟨60, [(20, I j), (19, I n), (7, .rf 1 1 0 0), (6, .rf 0 1 0 0), (1, .pt [I pc, I pos, I idle, I found, .pt (regs.map I)])], [.row 3 [.agg [I 0, I 0, .sl true []]] 0,
      .row 3 [.agg [I start, I pos, .ms 2 2 j 0 j]] 0, .row 2 ((capsN regs j).map spanAV) 0]⟩ : St)) (fun _ => True) ?_ ?_ trivial _ (by first | rfl | (refine prep_cut rfl (by rfl) (by rfl) (by rfl) ?_ ?_ <;> simp [AV.underL, AV.under, MB.under, underL_plain, under_plain, plain_ints, plain_span, plain_ins, plain_prg, -List.map_take]))
  · intro j hj _
    obtain ⟨a, ha⟩ : ∃ a, regs[2 * j]? = some a := ⟨_, List.getElem?_eq_getElem (by omega)⟩
    obtain ⟨b, hb⟩ : ∃ b, regs[2 * j + 1]? = some b := ⟨_, List.getElem?_eq_getElem (by omega)⟩
    have hl := capsN_len regs j
    rw [capsN_succ, List.getD_eq_getElem?_getD, List.getD_eq_getElem?_getD, ha, hb]
    simp only [Option.getD_some]
    generalize capsN regs j = cs at *
    have htk := take_map_len (f := spanAV) hl
    have e2 : (2 : Int) * (j : Int) = ((2 * j : Nat) : Int) := by omega
    have e3 : ((2 * j : Nat) : Int) + 1 = ((2 * j + 1 : Nat) : Int) := by omega
    simp +contextual (disch := omega) only [Try.f60, dd60, go_sem, ↓reduceIte, List.reduceReplicate, Nat.reduceAdd, Nat.reduceSub, reduceCtorEq, Nat.reduceLeDiff, Nat.reduceMul, Nat.reduceLT, Nat.reduceEqDiff, Int.reduceBNe, Int.reduceBEq, Int.reduceEq, Int.reduceLT, Int.reduceLE, Int.reduceGT, Int.reduceGE, mu60, Nat.reduceBEq, ↓wrap_up, ↓wrap_down, ↓wrap_pred, ↓wrap_sub_nat, Int.reduceToNat, ha, hb, hl, htk, e2, e3]
    repeat' (first | intro _ | apply And.intro | (unfold dOk; kernel_rfl) | exact St.beq_refl _ | (show altO _ _ _ _ = true; kernel_rfl) | (show (_ || _) = true; kernel_rfl) | (show (_ && _) = true; kernel_rfl))
    all_goals exact (by first | rfl | (refine prep_to (n := 3) (m := ⟨some [20, 19, 7, 6, 1], some 3, []⟩) rfl rfl ?_ ?_ ?_ <;> first | rfl | (simp [keepT, AV.underL, AV.under, MB.under, underL_plain, under_plain, underL_append, plain_ints, plain_span, plain_ins, plain_prg, -List.map_take, -List.map_replicate, -List.map_set, capP, *]; done) | (simp [keepT, AV.underL, AV.under, MB.under, underL_plain, under_plain, underL_append, plain_ints, plain_span, plain_ins, plain_prg, -List.map_take, -List.map_replicate, -List.map_set, capP, *]; omega)))
  · intro _
    have hl := capsN_len regs n
    generalize capsN regs n = cs at *
    simp +contextual (disch := omega) only [Try.f60, dd60, go_sem, ↓reduceIte, List.reduceReplicate, Nat.reduceAdd, Nat.reduceSub, reduceCtorEq, Nat.reduceLeDiff, Nat.reduceMul, Nat.reduceLT, Nat.reduceEqDiff, Int.reduceBNe, Int.reduceBEq, Int.reduceEq, Int.reduceLT, Int.reduceLE, Int.reduceGT, Int.reduceGE, mu60, Nat.reduceBEq, ↓wrap_up, ↓wrap_down, ↓wrap_pred, ↓wrap_sub_nat, Int.reduceToNat, hr, hl]
    simp only [fz, fzA_agg, fzL, fzA_int]
    rw [fzA_row (els := cs.map spanAV) (k := 2) (z := 0) rfl (by simp [hl]) (plain_span cs)]
    exact ⟨_, rfl⟩
end
section
attribute [local go_sem] tySzE List.head?_drop Nat.mul_one sameAt_zero sameAt_two sameAt_three sameAt_four sameAt_five room_ok ty4 ty53 ty110 ty112 ty174
open Go.Proofs Go.RowKit Go.IntWalk
set_option maxRecDepth 100000
set_option linter.unusedSimpArgs false
set_option linter.unusedVariables false
set_option maxHeartbeats 4000000

/-- A match: where it begins, where it ends, its captures. -/
abbrev M3 := Int × Int × List (Int × Int)
abbrev mA (m : M3) : AV := matAV m.1 m.2.1 m.2.2
theorem plain_mats (l : List M3) : AV.plainL (l.map mA) = true := by
  induction l with
  | nil => rfl
  | cons a l ih => simp [AV.plainL, ih, plain_mat]

theorem f67 (a b : M3) (ha : a.2.2.length ≤ 1000) (hb : b.2.2.length ≤ 1000) (H : List MB) : call Try.prog pol1 67 [mA a, mA b] H = some (.bool (decide (a = b)), H) := by
  obtain ⟨s, e, c⟩ := a
  obtain ⟨s', e', c'⟩ := b
  simp only at ha hb
  refine call_run Try.func67 rfl rfl rfl rfl rfl rfl (fun _ => rfl) (by simp [AV.plain, AV.plainL, plain_mat]) rfl ?_ H
  by_cases h : s = s' ∧ e = e' ∧ c.length = c'.length
  · obtain ⟨rfl, rfl, hl⟩ := h
    have hl' : (c.length : Int) = (c'.length : Int) := by rw [hl]
    simp +contextual (disch := omega) only [Try.f67, dd67, go_sem, ↓reduceIte, List.reduceReplicate, Nat.reduceAdd, Nat.reduceSub, reduceCtorEq, Nat.reduceLeDiff, Nat.reduceMul, Nat.reduceLT, Nat.reduceEqDiff, Int.reduceBNe, Int.reduceBEq, Int.reduceEq, Int.reduceLT, Int.reduceLE, Int.reduceGT, Int.reduceGE, mu67, Nat.reduceBEq, ↓wrap_up, ↓wrap_down, ↓wrap_pred, ↓wrap_sub_nat, Int.reduceToNat, matAV, hl']
    refine W_count (M := (mskOf (pol1.mask 67) (pol1.gc 67) (pol1.acts 67) 0 4)) rfl c.length (fun i => (⟨45, [(5, I i), (3, .rf 1 1 0 0), (2, .rf 0 1 0 0)], [.row 3 [.agg [I s, I e, .sl false (c.map spanAV)]] 0, .row 3 [.agg [I s, I e, .sl false (c'.map spanAV)]] 0]⟩ : St))
      (fun i => ∀ k, k < i → c[k]? = c'[k]?) ?_ ?_ (fun k h => by omega) _ (by first | rfl | (simp [keepT, AV.underL, AV.under, MB.under, underL_plain, under_plain, underL_append, plain_ints, plain_span, plain_ins, plain_prg, -List.map_take, -List.map_replicate, -List.map_set]; done))
    · intro i hi hg
      obtain ⟨p, hp⟩ : ∃ p, c[i]? = some p := ⟨_, List.getElem?_eq_getElem hi⟩
      obtain ⟨q, hq⟩ : ∃ q, c'[i]? = some q := ⟨_, List.getElem?_eq_getElem (by omega)⟩
      by_cases hpq : p = q
      · subst hpq
        simp +contextual (disch := omega) only [Try.f67, dd67, go_sem, ↓reduceIte, List.reduceReplicate, Nat.reduceAdd, Nat.reduceSub, reduceCtorEq, Nat.reduceLeDiff, Nat.reduceMul, Nat.reduceLT, Nat.reduceEqDiff, Int.reduceBNe, Int.reduceBEq, Int.reduceEq, Int.reduceLT, Int.reduceLE, Int.reduceGT, Int.reduceGE, mu67, Nat.reduceBEq, ↓wrap_up, ↓wrap_down, ↓wrap_pred, ↓wrap_sub_nat, Int.reduceToNat, hp, hq, spanAV]
        refine ⟨by unfold dOk; kernel_rfl, fun k hk => ?_, (by first | rfl | (simp [keepT, AV.underL, AV.under, MB.under, underL_plain, under_plain, underL_append, plain_ints, plain_span, plain_ins, plain_prg, -List.map_take, -List.map_replicate, -List.map_set]; done))⟩
        rcases Nat.lt_or_ge k i with h | h
        · exact hg k h
        · obtain rfl : k = i := by omega
          rw [hp, hq]
      · have hne : ¬ ((s, e, c) : M3) = (s, e, c') := fun he => hpq (by
          cases he
          rw [hp] at hq
          exact Option.some.inj hq)
        have hb2 : (p.1 == q.1 && p.2 == q.2) = false := by
          rw [Bool.eq_false_iff]
          intro he
          simp at he
          exact hpq (Prod.ext he.1 he.2)
        rw [decide_eq_false hne]
        simp +contextual (disch := omega) only [Try.f67, dd67, go_sem, ↓reduceIte, List.reduceReplicate, Nat.reduceAdd, Nat.reduceSub, reduceCtorEq, Nat.reduceLeDiff, Nat.reduceMul, Nat.reduceLT, Nat.reduceEqDiff, Int.reduceBNe, Int.reduceBEq, Int.reduceEq, Int.reduceLT, Int.reduceLE, Int.reduceGT, Int.reduceGE, mu67, Nat.reduceBEq, ↓wrap_up, ↓wrap_down, ↓wrap_pred, ↓wrap_sub_nat, Int.reduceToNat, hp, hq, spanAV, hb2]
        repeat' (first | intro _ | apply And.intro | (unfold dOk; kernel_rfl) | exact St.beq_refl _ | (show altO _ _ _ _ = true; kernel_rfl) | (show (_ || _) = true; kernel_rfl) | (show (_ && _) = true; kernel_rfl))
        all_goals exact fzEq rfl rfl
    · intro hg
      have hcc : c = c' := List.ext_getElem? fun k => by
        rcases Nat.lt_or_ge k c.length with h | h
        · exact hg k h
        · rw [List.getElem?_eq_none h, List.getElem?_eq_none (by omega)]
      subst hcc
      simp +contextual (disch := omega) only [Try.f67, dd67, go_sem, ↓reduceIte, List.reduceReplicate, Nat.reduceAdd, Nat.reduceSub, reduceCtorEq, Nat.reduceLeDiff, Nat.reduceMul, Nat.reduceLT, Nat.reduceEqDiff, Int.reduceBNe, Int.reduceBEq, Int.reduceEq, Int.reduceLT, Int.reduceLE, Int.reduceGT, Int.reduceGE, mu67, Nat.reduceBEq, ↓wrap_up, ↓wrap_down, ↓wrap_pred, ↓wrap_sub_nat, Int.reduceToNat]
      exact fzEq rfl (by simp)
  · rw [decide_eq_false (fun e => h (by cases e; exact ⟨rfl, rfl, rfl⟩))]
    simp +contextual (disch := omega) only [Try.f67, dd67, go_sem, ↓reduceIte, List.reduceReplicate, Nat.reduceAdd, Nat.reduceSub, reduceCtorEq, Nat.reduceLeDiff, Nat.reduceMul, Nat.reduceLT, Nat.reduceEqDiff, Int.reduceBNe, Int.reduceBEq, Int.reduceEq, Int.reduceLT, Int.reduceLE, Int.reduceGT, Int.reduceGE, mu67, Nat.reduceBEq, ↓wrap_up, ↓wrap_down, ↓wrap_pred, ↓wrap_sub_nat, Int.reduceToNat, matAV]
    repeat' (first | intro _ | apply And.intro | (unfold dOk; kernel_rfl) | exact St.beq_refl _ | (show altO _ _ _ _ = true; kernel_rfl) | (show (_ || _) = true; kernel_rfl) | (show (_ && _) = true; kernel_rfl))
    all_goals exact fzEq rfl rfl

theorem f26 (a b : List M3) (ha : a.length ≤ 1000000) (hb : b.length ≤ 1000000) (hca : ∀ m ∈ a, m.2.2.length ≤ 1000) (hcb : ∀ m ∈ b, m.2.2.length ≤ 1000) (H : List MB) :
    call Try.prog pol1 26 [.sl false (a.map mA), .sl false (b.map mA)] H = some (.bool (decide (a = b)), H) := by
  refine call_run Try.func26 rfl rfl rfl rfl rfl rfl (fun _ => rfl) (by simp [AV.plain, AV.plainL, plain_mats]) rfl ?_ H
  by_cases hl : a.length = b.length
  · have hl' : (a.length : Int) = (b.length : Int) := by rw [hl]
    simp +contextual (disch := omega) only [Try.f26, dd26, go_sem, ↓reduceIte, List.reduceReplicate, Nat.reduceAdd, Nat.reduceSub, reduceCtorEq, Nat.reduceLeDiff, Nat.reduceMul, Nat.reduceLT, Nat.reduceEqDiff, Int.reduceBNe, Int.reduceBEq, Int.reduceEq, Int.reduceLT, Int.reduceLE, Int.reduceGT, Int.reduceGE, mu26, Nat.reduceBEq, ↓wrap_up, ↓wrap_down, ↓wrap_pred, ↓wrap_sub_nat, Int.reduceToNat, hl']
    refine W_count (M := (mskOf (pol1.mask 26) (pol1.gc 26) (pol1.acts 26) 0 4)) rfl a.length (fun i => (⟨27, [(5, I i), (1, .sl false (b.map mA)), (0, .sl false (a.map mA))], []⟩ : St))
      (fun i => ∀ k, k < i → a[k]? = b[k]?) ?_ ?_ (fun k h => by omega) _ (by first | rfl | (simp [keepT, AV.underL, AV.under, MB.under, underL_plain, under_plain, underL_append, plain_ints, plain_span, plain_ins, plain_prg, -List.map_take, -List.map_replicate, -List.map_set]; done))
    · intro i hi hg
      obtain ⟨p, hp⟩ : ∃ p, a[i]? = some p := ⟨_, List.getElem?_eq_getElem hi⟩
      obtain ⟨q, hq⟩ : ∃ q, b[i]? = some q := ⟨_, List.getElem?_eq_getElem (by omega)⟩
      have h67 := f67 p q (hca p (List.mem_of_getElem? hp)) (hcb q (List.mem_of_getElem? hq))
      by_cases hpq : p = q
      · subst hpq
        rw [decide_eq_true rfl] at h67
        have h67 := fun H => h67 H
        simp only [mA, matAV] at h67
        simp +contextual (disch := omega) only [Try.f26, dd26, go_sem, ↓reduceIte, List.reduceReplicate, Nat.reduceAdd, Nat.reduceSub, reduceCtorEq, Nat.reduceLeDiff, Nat.reduceMul, Nat.reduceLT, Nat.reduceEqDiff, Int.reduceBNe, Int.reduceBEq, Int.reduceEq, Int.reduceLT, Int.reduceLE, Int.reduceGT, Int.reduceGE, mu26, Nat.reduceBEq, ↓wrap_up, ↓wrap_down, ↓wrap_pred, ↓wrap_sub_nat, Int.reduceToNat, hp, hq, h67, mA, matAV]
        refine ⟨by unfold dOk; kernel_rfl, fun k hk => ?_, (by first | rfl | (simp [keepT, AV.underL, AV.under, MB.under, underL_plain, under_plain, underL_append, plain_ints, plain_span, plain_ins, plain_prg, -List.map_take, -List.map_replicate, -List.map_set]; done))⟩
        rcases Nat.lt_or_ge k i with h | h
        · exact hg k h
        · obtain rfl : k = i := by omega
          rw [hp, hq]
      · have hne : ¬ a = b := fun he => hpq (by
          rw [he, hq] at hp
          exact (Option.some.inj hp).symm)
        rw [decide_eq_false hne]
        rw [decide_eq_false hpq] at h67
        simp only [mA, matAV] at h67
        simp +contextual (disch := omega) only [Try.f26, dd26, go_sem, ↓reduceIte, List.reduceReplicate, Nat.reduceAdd, Nat.reduceSub, reduceCtorEq, Nat.reduceLeDiff, Nat.reduceMul, Nat.reduceLT, Nat.reduceEqDiff, Int.reduceBNe, Int.reduceBEq, Int.reduceEq, Int.reduceLT, Int.reduceLE, Int.reduceGT, Int.reduceGE, mu26, Nat.reduceBEq, ↓wrap_up, ↓wrap_down, ↓wrap_pred, ↓wrap_sub_nat, Int.reduceToNat, hp, hq, h67, mA, matAV]
        repeat' (first | intro _ | apply And.intro | (unfold dOk; kernel_rfl) | exact St.beq_refl _ | (show altO _ _ _ _ = true; kernel_rfl) | (show (_ || _) = true; kernel_rfl) | (show (_ && _) = true; kernel_rfl))
        all_goals exact fzEq rfl rfl
    · intro hg
      have hcc : a = b := List.ext_getElem? fun k => by
        rcases Nat.lt_or_ge k a.length with h | h
        · exact hg k h
        · rw [List.getElem?_eq_none h, List.getElem?_eq_none (by omega)]
      subst hcc
      simp +contextual (disch := omega) only [Try.f26, dd26, go_sem, ↓reduceIte, List.reduceReplicate, Nat.reduceAdd, Nat.reduceSub, reduceCtorEq, Nat.reduceLeDiff, Nat.reduceMul, Nat.reduceLT, Nat.reduceEqDiff, Int.reduceBNe, Int.reduceBEq, Int.reduceEq, Int.reduceLT, Int.reduceLE, Int.reduceGT, Int.reduceGE, mu26, Nat.reduceBEq, ↓wrap_up, ↓wrap_down, ↓wrap_pred, ↓wrap_sub_nat, Int.reduceToNat]
      exact fzEq rfl (by simp)
  · rw [decide_eq_false (fun e => hl (by rw [e]))]
    simp +contextual (disch := omega) only [Try.f26, dd26, go_sem, ↓reduceIte, List.reduceReplicate, Nat.reduceAdd, Nat.reduceSub, reduceCtorEq, Nat.reduceLeDiff, Nat.reduceMul, Nat.reduceLT, Nat.reduceEqDiff, Int.reduceBNe, Int.reduceBEq, Int.reduceEq, Int.reduceLT, Int.reduceLE, Int.reduceGT, Int.reduceGE, mu26, Nat.reduceBEq, ↓wrap_up, ↓wrap_down, ↓wrap_pred, ↓wrap_sub_nat, Int.reduceToNat]
    repeat' (first | intro _ | apply And.intro | (unfold dOk; kernel_rfl) | exact St.beq_refl _ | (show altO _ _ _ _ = true; kernel_rfl) | (show (_ || _) = true; kernel_rfl) | (show (_ && _) = true; kernel_rfl))
    all_goals first | exact fzEq rfl rfl | omega
end
end Go.Ev
namespace Go.Ev
open Go.Proofs Go.RowKit Go.IntWalk
set_option maxRecDepth 100000
set_option linter.unusedSimpArgs false
set_option linter.unusedVariables false
set_option maxHeartbeats 4000000

/-- A program over a text, as the plain walk takes it. -/
def progOf (g : Prg) (t : List Int) : Prog1 := ⟨fun pc => g.ins[pc]?, fun s k => match t[k]? with
  | some x => hasSpan s x
  | none => false, fun n k => assertI n (befS t k) t[k]?⟩

structure Okay (g : Prg) : Prop where
  len : 1 ≤ g.ins.length ∧ g.ins.length ≤ 8192
  caps : 0 ≤ g.caps ∧ g.caps ≤ 9
  ok : ∀ i ∈ g.ins, okIns g.ins.length g.caps g.runes i = true
  last : lastGood g = true
theorem okay_of {g : Prg} (h : validG g = 0) : Okay g := by
  unfold validG at h
  split at h
  · cases h
  · split at h
    · cases h
    · split at h
      · rename_i h1 h2 h3
        simp only [Bool.and_eq_true, List.all_eq_true] at h3
        exact ⟨by omega, by omega, h3.1, h3.2⟩
      · cases h
theorem ok_facts {n : Nat} {c : Int} {r : Bool} {i : Ins} (h : okIns n c r i = true) :
    (i.op = 2 → (0 ≤ i.x ∧ i.x < n) ∧ 0 ≤ i.y ∧ i.y < n) ∧ (i.op = 3 → 0 ≤ i.x ∧ i.x < n) ∧ (i.op = 4 → 0 ≤ i.n ∧ i.n < 2 * c) := by
  simp only [okIns, Bool.and_eq_true, Bool.or_eq_true, beq_iff_eq, decide_eq_true_eq] at h
  refine ⟨fun e => ?_, fun e => ?_, fun e => ?_⟩ <;> simp [e] at h <;> omega
/-- Behind an instruction that goes on there is another. -/
theorem Okay.next {g : Prg} (h : Okay g) {pc : Nat} {i : Ins} (hi : g.ins[pc]? = some i) (ho : ¬ (i.op = 0 ∨ i.op = 2 ∨ i.op = 3)) : pc + 1 < g.ins.length := by
  have hlt := (List.getElem?_eq_some_iff.1 hi).1
  rcases Nat.lt_or_ge (pc + 1) g.ins.length with hh | hh
  · exact hh
  · have hl := h.last
    have : g.ins.length - 1 = pc := by omega
    simp only [lastGood, this, hi] at hl
    simp at hl
    omega

structure WayOk (g : Prg) (t : List Int) (N : Nat) (w : Way) : Prop where
  pc : w.pc < g.ins.length
  at_ : w.at_ ≤ t.length
  regs : w.regs.length = N

theorem step_ok {g : Prg} (h : Okay g) {t : List Int} {N : Nat} {w : Way} (hw : WayOk g t N w) {l : List Way} (hs : stepW (progOf g t) w = .ways l) : ∀ v ∈ l, WayOk g t N v := by
  obtain ⟨h1, h2, h3⟩ := hw
  obtain ⟨i, hi⟩ : ∃ i, g.ins[w.pc]? = some i := ⟨_, List.getElem?_eq_getElem h1⟩
  have hok := h.ok i (List.mem_of_getElem? hi)
  have hf := ok_facts hok
  have hop := okIns_op hok
  have hp : (progOf g t).ins w.pc = some i := hi
  simp only [stepW, hp] at hs
  split at hs
  · cases hs
  · rename_i n0
    split at hs
    · rename_i e1
      split at hs
      · rename_i hhas
        cases hs
        intro v hv
        rw [List.mem_singleton.1 hv]
        refine ⟨h.next hi (by omega), ?_, h3⟩
        simp only [progOf] at hhas
        cases ht : t[w.at_]? with
        | none => rw [ht] at hhas; simp at hhas
        | some x =>
          have := (List.getElem?_eq_some_iff.1 ht).1
          show w.at_ + 1 ≤ t.length
          omega
      · cases hs; intro v hv; simp at hv
    · split at hs
      · rename_i e2
        cases hs
        have := hf.1 e2
        intro v hv
        rcases List.mem_cons.1 hv with e | e
        · rw [e]; exact ⟨by show i.x.toNat < _; omega, h2, h3⟩
        · rw [List.mem_singleton.1 e]; exact ⟨by show i.y.toNat < _; omega, h2, h3⟩
      · split at hs
        · rename_i e3
          cases hs
          have := hf.2.1 e3
          intro v hv
          rw [List.mem_singleton.1 hv]; exact ⟨by show i.x.toNat < _; omega, h2, h3⟩
        · split at hs
          · rename_i e4
            cases hs
            intro v hv
            rw [List.mem_singleton.1 hv]; exact ⟨h.next hi (by omega), h2, by simp [h3]⟩
          · split at hs
            · cases hs
              intro v hv
              rw [List.mem_singleton.1 hv]; exact ⟨h.next hi (by omega), h2, h3⟩
            · cases hs; intro v hv; simp at hv

/-- What comes out: the matches, or that the fuel is used up. -/
def matOf (pos : Int) (n : Nat) (w : Way) : M3 := (pos, w.at_, capsN w.regs n)
def resA (pos : Int) (n : Nat) : Option (List Way) → AV
  | some out => .tup [.sl false (out.map fun w => mA (matOf pos n w)), I 0]
  | none => .tup [.sl false [], I 11]
theorem plain_matOf (pos : Int) (n : Nat) (l : List Way) : AV.plainL (l.map fun w => mA (matOf pos n w)) = true := by
  rw [show (l.map fun w => mA (matOf pos n w)) = (l.map (matOf pos n)).map mA by simp]
  exact plain_mats _
theorem plain_matOf2 (pos : Int) (n : Nat) (l : List Way) : AV.plainL (l.map fun w => AV.agg [I pos, I w.at_, .sl false ((capsN w.regs n).map spanAV)]) = true := plain_matOf pos n l
theorem plain_resA (pos : Int) (n : Nat) (o : Option (List Way)) : AV.plain (resA pos n o) = true := by
  cases o with
  | none => rfl
  | some out => simp [resA, AV.plain, AV.plainL, plain_matOf]
theorem runW_nil {p : Prog1} {most : Int} {fuel : Nat} {out : List Way} : runW p most fuel [] out = some out := by unfold runW; rfl
theorem runW_full {p : Prog1} {most : Int} {fuel : Nat} {w : Way} {rest out : List Way} (h : (out.length : Int) = most) : runW p most fuel (w :: rest) out = some out := by
  unfold runW
  simp only [h, if_true]

/-- A stack of ways: the top comes last; behind it what was there before. -/
abbrev wayA (w : Way) : AV := .agg [I w.pc, I w.at_, .sl false (w.regs.map I)]
def stA {α : Type} (f : α → AV) (l : List α) : List AV := l.reverse.map f
theorem stA_len {α : Type} (f : α → AV) (l : List α) : (stA f l).length = l.length := by simp [stA]
theorem stA_cons {α : Type} (f : α → AV) (w : α) (l : List α) (j : List AV) : stA f (w :: l) ++ j = stA f l ++ (f w :: j) := by simp [stA]
theorem stA_one {α : Type} (f : α → AV) (w : α) (l : List α) : stA f (w :: l) = stA f l ++ [f w] := by simp [stA]
theorem plain_ways (l : List Way) : AV.plainL (stA wayA l) = true := by
  rw [plainL_iff]
  intro x hx
  obtain ⟨w, _, rfl⟩ := List.mem_map.1 hx
  simp [AV.plain, AV.plainL, plain_ints]
theorem get_top {A : List AV} {k : Nat} (h : A.length = k) (x : AV) (B : List AV) : (A ++ (x :: B))[k]? = some x := by
  subst h; simp
theorem take_top {A : List AV} {k : Nat} (h : A.length = k) (B : List AV) : (A ++ B).take k = A := by
  subst h; simp
theorem drop_top {A : List AV} {k : Nat} (h : A.length = k) (x : AV) (B : List AV) : (A ++ (x :: B)).drop (k + 1) = B := by
  subst h; simp [List.drop_append]
theorem drop_top2 {A : List AV} {k : Nat} (h : A.length = k) (x y : AV) (B : List AV) : (A ++ (x :: y :: B)).drop (k + 2) = B := by
  subst h; simp [List.drop_append]
end Go.Ev
