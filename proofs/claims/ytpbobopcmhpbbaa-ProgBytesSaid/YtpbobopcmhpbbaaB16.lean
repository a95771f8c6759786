/- Functions of the program, each with what it computes; no further conditions. -/
import Derived.Test.YtpbobopcmhpbbaaB05
import Derived.Test.YtpbobopcmhpbbaaB15
import Derived.Test.YtpbobopcmhpbbaaB11
import Derived.Test.YtpbobopcmhpbbaaB10
import Derived.Test.YtpbobopcmhpbbaaB13
set_option linter.unusedVariables false
set_option linter.unusedSimpArgs false
namespace Go.Ev
attribute [local go_sem] eq_self bindW_some bindW_map bindW_ite bindW_iteN W_seq W_region W_draw W_cond W_condK W_ret W_skip W_exit W_scope W_label W_block blockK_norm blockK_ret blockK_exit WO_nil WO_cons WO_guard WD_nil WD_cons WD_guard guardV guardW_boolT guardW_boolF guardW_tup fpL_some fpL_none footprint thenK_norm thenK_ret thenK_exit put_some put_none ev_tmp ev_con ev_func ofK_int ofK_bool ofK_str ofK_nil evOp evBuiltin evCall evLen evAppend getElem_16 getElem_4 List.length_cons List.length_nil List.cons_append List.nil_append List.append_nil if_false if_true Bool.false_eq_true Bool.true_eq_false Option.map_some Option.map_none List.map_cons List.map_nil evBinOp evBin evUn asB_bool splitB_decide splitB_true splitB_false splitB_beq splitB_bne splitB_not endK_ret endK_norm List.getElem?_cons_zero List.getElem?_cons_succ evResults evResult packRes retK_norm retK_ret cellsAt mkVal evFieldAddr evField evIndexAddr evPart evStore evBuild evBuildSlice fillC fillE evSlice evMakeSlice evConvert getRow AV.cells List.head?_cons List.drop_zero List.drop_succ_cons List.take_zero List.take_succ_cons List.drop_nil List.take_nil List.all_cons List.all_nil AV.ok Bool.and_self Bool.and_true Bool.true_and and_self and_true true_and Nat.zero_add Nat.add_zero setCells splice pairsOk pairsX altW_none altW_some cfg_al WI_nil WI_cons FP.apart heapEq_refl sameAt_refl Bool.or_true Bool.true_or Bool.or_false srcElems elemsOf mutDst roundK_norm roundK_exit roundK_ret List.length_map List.getElem?_map Int.toNat_natCast decide_true decide_false Bool.not_true Bool.not_false List.set set_0 set_1 set_2 set_3 set_4 look_hit look lookD_hit lookD_cons lookD_nil ins_hit ins upd_hit upd rem1_hit rem1 dropT dropSt_eq initT cfg_dd cfg_bd cfg_ra actL_nil actL_cons act1 updT_hit updT frzB retE_norm retE_ret bndO bnd evEq eqCells not_false_eq_true not_true_eq_false toList_some Array.size_empty List.length_append List.map_append endE_norm endE_ret head_take1 List.contains_nil List.contains_cons Bool.or_self dlt_t dlt_f dle_t dle_f dgt_t dgt_f dge_t dge_f beq_t beq_f bne_t bne_f lt_T le_T nle_T nle_F Go.IntWalk.i64_in Go.IntWalk.i64_quo Go.IntWalk.rem_in ty0 ty3 ty4
section
attribute [local go_sem] ty22 ty23 ty39 ty41 ty86 ty108
open Go.Proofs Go.RowKit Go.IntWalk
set_option maxRecDepth 100000
set_option linter.unusedSimpArgs false
set_option linter.unusedVariables false
set_option maxHeartbeats 4000000

/-- All numbers of an instruction are numbers of the machine. -/
structure Ins64 (i : Ins) : Prop where
  op : In64 i.op
  x : In64 i.x
  y : In64 i.y
  n : In64 i.n
  set : In64S i.set
structure PrgM (g : Prg) (a b : Nat) : Prop where
  len : g.ins.length ≤ a
  sets : ∀ i ∈ g.ins, i.set.length ≤ b
  caps : In64 g.caps
  i64 : ∀ i ∈ g.ins, Ins64 i
theorem wrap64 (n : Int) : In64 (IntKind.i64.wrap n) := by
  rw [IntKind.wrap_i64]
  unfold In64
  omega
theorem f28M (g : Prg) (a b : Nat) (ha : a ≤ 1000000) (hb : b ≤ 1000000) (hg : PrgM g a b) (pos how by_ : Int) (h1 : In64 pos) (h2 : In64 how) (h3 : In64 by_) :
    ∃ r, (∃ g', PrgM g' a (b + 1) ∧ r = prgAV g') ∧ ∀ H, call Try.prog pol1 28 [.agg [.sl false (g.ins.map insAV), I g.caps, .bool g.runes], I pos, I how, I by_] H = some (r, H) := by
  obtain ⟨ins, caps, runes⟩ := g
  obtain ⟨hl, hs, hc, h64⟩ := hg
  simp only [] at hl hs hc h64
  refine call_runA Try.func28 rfl rfl rfl rfl rfl rfl (fun _ => rfl) (by simp [AV.plain, AV.plainL, plain_ints, plain_span, plain_ins, plain_prg]) ?_ ?_
  · rintro _ ⟨g, _, rfl⟩; exact plain_prg g
  cases ins with
  | nil =>
    simp +contextual (disch := omega) only [Try.f28, dd28, go_sem, ↓reduceIte, List.reduceReplicate, Nat.reduceAdd, Nat.reduceSub, reduceCtorEq, Nat.reduceLeDiff, Nat.reduceMul, Nat.reduceLT, Nat.reduceEqDiff, Int.reduceBNe, Int.reduceBEq, Int.reduceEq, Int.reduceLT, Int.reduceLE, Int.reduceGT, Int.reduceGE, mu28, Nat.reduceBEq, ↓wrap_up, ↓wrap_down, ↓wrap_pred, ↓wrap_sub_nat, Int.reduceToNat]
    exact ⟨_, ⟨⟨[], caps, runes⟩, ⟨by simp, by simp, hc, by simp⟩, rfl⟩, _, rfl⟩
  | cons x xs =>
    simp only [List.length_cons] at hl
    have hf := fun (n m : Int) (hn : In64 n) (hm : m ≠ 0) => f12 n m hn hm
    have hi := around_lt (n := pos) (m := ((xs.length + 1 : Nat) : Int)) (by omega)
    have hfi := f12 pos ((xs.length + 1 : Nat) : Int) h1 (by omega)
    obtain ⟨i, hie, hil⟩ : ∃ i : Nat, aroundI pos ((xs.length + 1 : Nat) : Int) = i ∧ i < xs.length + 1 := ⟨(aroundI pos ((xs.length + 1 : Nat) : Int)).toNat, by omega, by omega⟩
    rw [hie] at hfi
    obtain ⟨p, hp⟩ : ∃ p, (x :: xs)[i]? = some p := ⟨_, List.getElem?_eq_getElem hil⟩
    have hp' : (insAV x :: List.map insAV xs)[i]? = some (insAV p) := by
      have : ((x :: xs).map insAV)[i]? = some (insAV p) := by rw [List.getElem?_map, hp]; rfl
      exact this
    have h5 := around_lt (n := by_) (m := 5) (by omega)
    have h4 := around_lt (n := by_) (m := 4) (by omega)
    obtain ⟨j5, e5, l5⟩ : ∃ j : Nat, aroundI by_ 5 = j ∧ j < 5 := ⟨(aroundI by_ 5).toNat, by omega, by omega⟩
    obtain ⟨j4, e4, l4⟩ : ∃ j : Nat, aroundI by_ 4 = j ∧ j < 4 := ⟨(aroundI by_ 4).toNat, by omega, by omega⟩
    have f5 := f12 by_ 5 h3 (by omega)
    have f4 := f12 by_ 4 h3 (by omega)
    rw [e5] at f5
    rw [e4] at f4
    have hh := around_lt (n := how) (m := 8) (by omega)
    have fh := f12 how 8 h2 (by omega)
    generalize aroundI how 8 = k at *
    have hst : ∀ q : Ins, (insAV x :: List.map insAV xs).set i (insAV q) = ((x :: xs).set i q).map insAV := fun q => by
      rw [List.map_set]; rfl
    have hal := all_ins5 (x :: xs)
    have hroom : roomFor (xs.length + 1) 56 = true := by simp [roomFor]; omega
    have hps : p.set.length ≤ b := hs p (List.mem_of_getElem? hp)
    have hp64 := h64 p (List.mem_of_getElem? hp)
    have n5 : ∀ l : List Int, (∀ z ∈ l, In64 z) → ∀ j, In64 (l.getD j 0) := fun l h j => in64_get l j h
    have hnew : ∀ q : Ins, q.set.length ≤ b + 1 → Ins64 q → ∀ c, In64 c → ∀ r, PrgM ⟨(x :: xs).set i q, c, r⟩ a (b + 1) := fun q hq hq64 c hc r => ⟨by simp; omega, fun y hy => by
      rcases List.mem_or_eq_of_mem_set hy with h | h
      · have := hs y h; omega
      · rw [h]; exact hq, hc, fun y hy => by
      rcases List.mem_or_eq_of_mem_set hy with h | h
      · exact h64 y h
      · rw [h]; exact hq64⟩
    rcases (by omega : k = 0 ∨ k = 1 ∨ k = 2 ∨ k = 3 ∨ k = 4 ∨ k = 5 ∨ k = 6 ∨ k = 7) with rfl | rfl | rfl | rfl | rfl | rfl | rfl | rfl
    · simp +contextual (disch := omega) only [Try.f28, dd28, go_sem, ↓reduceIte, List.reduceReplicate, Nat.reduceAdd, Nat.reduceSub, reduceCtorEq, Nat.reduceLeDiff, Nat.reduceMul, Nat.reduceLT, Nat.reduceEqDiff, Int.reduceBNe, Int.reduceBEq, Int.reduceEq, Int.reduceLT, Int.reduceLE, Int.reduceGT, Int.reduceGE, mu28, Nat.reduceBEq, ↓wrap_up, ↓wrap_down, ↓wrap_pred, ↓wrap_sub_nat, Int.reduceToNat, hfi, fh, hp', f5, get5, l5, f4, get4, l4]
      refine ⟨hal, hroom, ?_⟩
      exact ⟨_, ⟨⟨(x :: xs).set i ⟨[by_, -1, 6, 1, 4].getD j5 0, p.x, p.y, p.n, p.set⟩, caps, runes⟩, hnew ⟨[by_, -1, 6, 1, 4].getD j5 0, p.x, p.y, p.n, p.set⟩ (by simp only []; omega) ⟨n5 _ (by intro z hz; simp only [List.mem_cons, List.not_mem_nil, or_false] at hz; rcases hz with rfl | rfl | rfl | rfl | rfl <;> first | exact h3 | exact wrap64 _ | exact ⟨by omega, by omega⟩) j5, hp64.x, hp64.y, hp64.n, hp64.set⟩ _ hc _, rfl⟩, fz_all (congrArg (fun z => some (5, z, 0)) (hst ⟨[by_, -1, 6, 1, 4].getD j5 0, p.x, p.y, p.n, p.set⟩)) (by simp)⟩
    · simp +contextual (disch := omega) only [Try.f28, dd28, go_sem, ↓reduceIte, List.reduceReplicate, Nat.reduceAdd, Nat.reduceSub, reduceCtorEq, Nat.reduceLeDiff, Nat.reduceMul, Nat.reduceLT, Nat.reduceEqDiff, Int.reduceBNe, Int.reduceBEq, Int.reduceEq, Int.reduceLT, Int.reduceLE, Int.reduceGT, Int.reduceGE, mu28, Nat.reduceBEq, ↓wrap_up, ↓wrap_down, ↓wrap_pred, ↓wrap_sub_nat, Int.reduceToNat, hfi, fh, hp', f5, get5, l5, f4, get4, l4]
      refine ⟨hal, hroom, ?_⟩
      exact ⟨_, ⟨⟨(x :: xs).set i ⟨p.op, [by_, -1, ((xs.length + 1 : Nat) : Int), (xs.length : Int)].getD j4 0, p.y, p.n, p.set⟩, caps, runes⟩, hnew ⟨p.op, [by_, -1, ((xs.length + 1 : Nat) : Int), (xs.length : Int)].getD j4 0, p.y, p.n, p.set⟩ (by simp only []; omega) ⟨hp64.op, n5 _ (by intro z hz; simp only [List.mem_cons, List.not_mem_nil, or_false] at hz; rcases hz with rfl | rfl | rfl | rfl <;> first | exact h3 | exact wrap64 _ | exact ⟨by omega, by omega⟩) j4, hp64.y, hp64.n, hp64.set⟩ _ hc _, rfl⟩, fz_all (congrArg (fun z => some (5, z, 0)) (hst ⟨p.op, [by_, -1, ((xs.length + 1 : Nat) : Int), (xs.length : Int)].getD j4 0, p.y, p.n, p.set⟩)) (by simp)⟩
    · simp +contextual (disch := omega) only [Try.f28, dd28, go_sem, ↓reduceIte, List.reduceReplicate, Nat.reduceAdd, Nat.reduceSub, reduceCtorEq, Nat.reduceLeDiff, Nat.reduceMul, Nat.reduceLT, Nat.reduceEqDiff, Int.reduceBNe, Int.reduceBEq, Int.reduceEq, Int.reduceLT, Int.reduceLE, Int.reduceGT, Int.reduceGE, mu28, Nat.reduceBEq, ↓wrap_up, ↓wrap_down, ↓wrap_pred, ↓wrap_sub_nat, Int.reduceToNat, hfi, fh, hp', f5, get5, l5, f4, get4, l4]
      refine ⟨hal, hroom, ?_⟩
      exact ⟨_, ⟨⟨(x :: xs).set i ⟨p.op, p.x, [by_, -1, ((xs.length + 1 : Nat) : Int), 0].getD j4 0, p.n, p.set⟩, caps, runes⟩, hnew ⟨p.op, p.x, [by_, -1, ((xs.length + 1 : Nat) : Int), 0].getD j4 0, p.n, p.set⟩ (by simp only []; omega) ⟨hp64.op, hp64.x, n5 _ (by intro z hz; simp only [List.mem_cons, List.not_mem_nil, or_false] at hz; rcases hz with rfl | rfl | rfl | rfl <;> first | exact h3 | exact wrap64 _ | exact ⟨by omega, by omega⟩) j4, hp64.n, hp64.set⟩ _ hc _, rfl⟩, fz_all (congrArg (fun z => some (5, z, 0)) (hst ⟨p.op, p.x, [by_, -1, ((xs.length + 1 : Nat) : Int), 0].getD j4 0, p.n, p.set⟩)) (by simp)⟩
    · simp +contextual (disch := omega) only [Try.f28, dd28, go_sem, ↓reduceIte, List.reduceReplicate, Nat.reduceAdd, Nat.reduceSub, reduceCtorEq, Nat.reduceLeDiff, Nat.reduceMul, Nat.reduceLT, Nat.reduceEqDiff, Int.reduceBNe, Int.reduceBEq, Int.reduceEq, Int.reduceLT, Int.reduceLE, Int.reduceGT, Int.reduceGE, mu28, Nat.reduceBEq, ↓wrap_up, ↓wrap_down, ↓wrap_pred, ↓wrap_sub_nat, Int.reduceToNat, hfi, fh, hp', f5, get5, l5, f4, get4, l4]
      refine ⟨hal, hroom, by unfold dOk; kernel_rfl, by kernel_rfl, ?_⟩
      exact ⟨_, ⟨⟨(x :: xs).set i ⟨p.op, p.x, p.y, [by_, -1, 5, 6, IntKind.i64.wrap (2 * caps)].getD j5 0, p.set⟩, caps, runes⟩, hnew ⟨p.op, p.x, p.y, [by_, -1, 5, 6, IntKind.i64.wrap (2 * caps)].getD j5 0, p.set⟩ (by simp only []; omega) ⟨hp64.op, hp64.x, hp64.y, n5 _ (by intro z hz; simp only [List.mem_cons, List.not_mem_nil, or_false] at hz; rcases hz with rfl | rfl | rfl | rfl | rfl <;> first | exact h3 | exact wrap64 _ | exact ⟨by omega, by omega⟩) j5, hp64.set⟩ _ hc _, rfl⟩, fz_all (congrArg (fun z => some (5, z, 0)) (hst ⟨p.op, p.x, p.y, [by_, -1, 5, 6, IntKind.i64.wrap (2 * caps)].getD j5 0, p.set⟩)) (by simp)⟩
    · obtain ⟨op, px, py, pn, set⟩ := p
      simp only [] at hps hp64
      cases set with
      | nil =>
        simp +contextual (disch := omega) only [Try.f28, dd28, go_sem, ↓reduceIte, List.reduceReplicate, Nat.reduceAdd, Nat.reduceSub, reduceCtorEq, Nat.reduceLeDiff, Nat.reduceMul, Nat.reduceLT, Nat.reduceEqDiff, Int.reduceBNe, Int.reduceBEq, Int.reduceEq, Int.reduceLT, Int.reduceLE, Int.reduceGT, Int.reduceGE, mu28, Nat.reduceBEq, ↓wrap_up, ↓wrap_down, ↓wrap_pred, ↓wrap_sub_nat, Int.reduceToNat, hfi, fh, hp', f5, get5, l5, f4, get4, l4]
        refine ⟨hal, hroom, rfl, ?_⟩
        exact ⟨_, ⟨⟨(x :: xs).set i ⟨op, px, py, pn, [(by_, [by_, 255, 256, 1114111, 1114112].getD j5 0)]⟩, caps, runes⟩, hnew ⟨op, px, py, pn, [(by_, [by_, 255, 256, 1114111, 1114112].getD j5 0)]⟩ (by simp) ⟨hp64.op, hp64.x, hp64.y, hp64.n, fun q hq => by rw [List.mem_singleton.1 hq]; exact ⟨h3, n5 _ (by intro z hz; simp only [List.mem_cons, List.not_mem_nil, or_false] at hz; rcases hz with rfl | rfl | rfl | rfl | rfl <;> first | exact h3 | exact wrap64 _ | exact ⟨by omega, by omega⟩) j5⟩⟩ _ hc _, rfl⟩, fz_set (ins := x :: xs) (sp := [(by_, _)]) hil rfl rfl⟩
      | cons y ys =>
        simp +contextual (disch := omega) only [Try.f28, dd28, go_sem, ↓reduceIte, List.reduceReplicate, Nat.reduceAdd, Nat.reduceSub, reduceCtorEq, Nat.reduceLeDiff, Nat.reduceMul, Nat.reduceLT, Nat.reduceEqDiff, Int.reduceBNe, Int.reduceBEq, Int.reduceEq, Int.reduceLT, Int.reduceLE, Int.reduceGT, Int.reduceGE, mu28, Nat.reduceBEq, ↓wrap_up, ↓wrap_down, ↓wrap_pred, ↓wrap_sub_nat, Int.reduceToNat, hfi, fh, hp', f5, get5, l5, f4, get4, l4]
        have e1 : spanAV y :: (List.take ys.length (List.map spanAV ys) ++ [AV.agg [I by_, I ([by_, 255, 256, 1114111, 1114112].getD j5 0)]]) =
          (y :: (ys ++ [(by_, [by_, 255, 256, 1114111, 1114112].getD j5 0)])).map spanAV := by
          rw [List.take_of_length_le (by simp)]; simp
        rw [e1]
        simp only [List.length_cons] at hps
        refine ⟨hal, hroom, all_span2 (y :: ys), by simp [roomFor]; omega, by simp [roomFor]; omega, ?_⟩
        exact ⟨_, ⟨⟨(x :: xs).set i ⟨op, px, py, pn, y :: (ys ++ [(by_, [by_, 255, 256, 1114111, 1114112].getD j5 0)])⟩, caps, runes⟩, hnew ⟨op, px, py, pn, y :: (ys ++ [(by_, [by_, 255, 256, 1114111, 1114112].getD j5 0)])⟩ (by simp; omega) ⟨hp64.op, hp64.x, hp64.y, hp64.n, fun q hq => by
          rcases List.mem_cons.1 hq with e | e
          · exact hp64.set q (by rw [e]; simp)
          · rcases List.mem_append.1 e with e | e
            · exact hp64.set q (by simp [e])
            · rw [List.mem_singleton.1 e]; exact ⟨h3, n5 _ (by intro z hz; simp only [List.mem_cons, List.not_mem_nil, or_false] at hz; rcases hz with rfl | rfl | rfl | rfl | rfl <;> first | exact h3 | exact wrap64 _ | exact ⟨by omega, by omega⟩) j5⟩⟩ _ hc _, rfl⟩, fz_set (ins := x :: xs) (sp := y :: (ys ++ [(by_, _)])) hil rfl (by simp)⟩
    · simp +contextual (disch := omega) only [Try.f28, dd28, go_sem, ↓reduceIte, List.reduceReplicate, Nat.reduceAdd, Nat.reduceSub, reduceCtorEq, Nat.reduceLeDiff, Nat.reduceMul, Nat.reduceLT, Nat.reduceEqDiff, Int.reduceBNe, Int.reduceBEq, Int.reduceEq, Int.reduceLT, Int.reduceLE, Int.reduceGT, Int.reduceGE, mu28, Nat.reduceBEq, ↓wrap_up, ↓wrap_down, ↓wrap_pred, ↓wrap_sub_nat, Int.reduceToNat, hfi, fh, hp', f5, get5, l5, f4, get4, l4]
      refine ⟨hal, hroom, ?_⟩
      exact ⟨_, ⟨⟨x :: xs, [by_, -1, 9, 10].getD j4 0, runes⟩, ⟨by simp; omega, fun y hy => by have := hs y hy; omega, in64_get _ _ (by intro z hz; simp at hz; rcases hz with rfl | rfl | rfl | rfl <;> first | exact h3 | exact ⟨by omega, by omega⟩), h64⟩, rfl⟩, fz_all rfl (by simp)⟩
    · simp +contextual (disch := omega) only [Try.f28, dd28, go_sem, ↓reduceIte, List.reduceReplicate, Nat.reduceAdd, Nat.reduceSub, reduceCtorEq, Nat.reduceLeDiff, Nat.reduceMul, Nat.reduceLT, Nat.reduceEqDiff, Int.reduceBNe, Int.reduceBEq, Int.reduceEq, Int.reduceLT, Int.reduceLE, Int.reduceGT, Int.reduceGE, mu28, Nat.reduceBEq, ↓wrap_up, ↓wrap_down, ↓wrap_pred, ↓wrap_sub_nat, Int.reduceToNat, hfi, fh, hp', f5, get5, l5, f4, get4, l4]
      refine ⟨hal, hroom, ?_⟩
      exact ⟨_, ⟨⟨(x :: xs).take (xs.length - 0), caps, runes⟩, ⟨by simp; omega, fun y hy => by have := hs y (List.mem_of_mem_take hy); omega, hc, fun y hy => h64 y (List.mem_of_mem_take hy)⟩, rfl⟩, fz_ms (ins := x :: xs) rfl (by simp) (by omega)⟩
    · simp +contextual (disch := omega) only [Try.f28, dd28, go_sem, ↓reduceIte, List.reduceReplicate, Nat.reduceAdd, Nat.reduceSub, reduceCtorEq, Nat.reduceLeDiff, Nat.reduceMul, Nat.reduceLT, Nat.reduceEqDiff, Int.reduceBNe, Int.reduceBEq, Int.reduceEq, Int.reduceLT, Int.reduceLE, Int.reduceGT, Int.reduceGE, mu28, Nat.reduceBEq, ↓wrap_up, ↓wrap_down, ↓wrap_pred, ↓wrap_sub_nat, Int.reduceToNat, hfi, fh, hp', f5, get5, l5, f4, get4, l4]
      refine ⟨hal, hroom, ?_⟩
      exact ⟨_, ⟨⟨x :: xs, caps, !runes⟩, ⟨by simp; omega, fun y hy => by have := hs y hy; omega, hc, h64⟩, rfl⟩, fz_all rfl (by simp)⟩
end
end Go.Ev
namespace Go.Ev
set_option linter.unusedSimpArgs false
set_option linter.unusedVariables false
set_option maxRecDepth 100000

/-- An instruction as Encode and Decode take it. -/
structure InsC (i : Ins) : Prop where
  i64 : Ins64 i
  set : i.op = 1 → refSpans i.set = 0 ∧ i.set.length ≤ 64
  none : i.op ≠ 1 → i.set = []
theorem setE_lt {s : List (Int × Int)} (h : In64S s) (hl : s.length ≤ 64) : (setE s).length < 18446744073709551616 := by
  have := setE_len h (by omega)
  omega
theorem insR_on {i : Ins} {s : RS} {r : List Int} (hi : InsC i) (h : On s (insE i ++ r)) : ∃ s', insR s = some (i, s') ∧ On s' r ∧ s'.bs = s.bs := by
  obtain ⟨h1, h2, h3, h4, h5⟩ := hi.i64
  have h' : On s (iE i.op ++ (iE i.x ++ (iE i.y ++ (iE i.n ++ ((if i.op = 1 then rawE (setE i.set) else []) ++ r))))) := by simpa [insE] using h
  obtain ⟨s1, a1, a2, a3⟩ := intR_on h1 h'
  obtain ⟨s2, b1, b2, b3⟩ := intR_on h2 a2
  obtain ⟨s3, c1, c2, c3⟩ := intR_on h3 b2
  obtain ⟨s4, d1, d2, d3⟩ := intR_on h4 c2
  by_cases ho : i.op = 1
  · rw [if_pos ho] at d2
    obtain ⟨hs1, hs2⟩ := hi.set ho
    obtain ⟨s5, e1, e2, e3⟩ := rawR_on (setE_lt h5 hs2) d2
    refine ⟨s5, ?_, e2, by rw [e3, d3, c3, b3, a3]⟩
    unfold insR
    simp only [a1, b1, c1, d1]
    rw [if_pos ho]
    simp only [e1, setD_on h5 hs2 hs1]
  · rw [if_neg ho, List.nil_append] at d2
    refine ⟨s4, ?_, d2, by rw [d3, c3, b3, a3]⟩
    unfold insR
    simp only [a1, b1, c1, d1]
    rw [if_neg ho]
    have := hi.none ho
    obtain ⟨op, x, y, n, set⟩ := i
    simp only at this
    rw [this]
theorem insR_ok {s s' : RS} {i : Ins} (hs : RdOk s) (h : insR s = some (i, s')) : RdOk s' := by
  have o1 : RdOk (intR s).2 := uintR_ok hs
  have o2 : RdOk (intR (intR s).2).2 := uintR_ok o1
  have o3 : RdOk (intR (intR (intR s).2).2).2 := uintR_ok o2
  have o4 : RdOk (intR (intR (intR (intR s).2).2).2).2 := uintR_ok o3
  unfold insR at h
  simp only at h
  split at h
  · split at h
    · cases h; exact rawR_ok o4
    · cases h
  · cases h; exact o4
theorem insR_of {s s' : RS} {i : Ins} (hs : RdOk s) (h : insR s = some (i, s')) (hw : s'.wr = 0) : ∃ r, On s (insE i ++ r) ∧ On s' r ∧ InsC i := by
  have o1 : RdOk (intR s).2 := uintR_ok hs
  have o2 : RdOk (intR (intR s).2).2 := uintR_ok o1
  have o3 : RdOk (intR (intR (intR s).2).2).2 := uintR_ok o2
  have o4 : RdOk (intR (intR (intR (intR s).2).2).2).2 := uintR_ok o3
  have n1 : In64 (intR s).1 := unz_64 (uintR_lt hs)
  have n2 : In64 (intR (intR s).2).1 := unz_64 (uintR_lt o1)
  have n3 : In64 (intR (intR (intR s).2).2).1 := unz_64 (uintR_lt o2)
  have n4 : In64 (intR (intR (intR (intR s).2).2).2).1 := unz_64 (uintR_lt o3)
  unfold insR at h
  simp only at h
  have key : ∀ t, On (intR (intR (intR (intR s).2).2).2).2 t → On s (iE (intR s).1 ++ iE (intR (intR s).2).1 ++ iE (intR (intR (intR s).2).2).1 ++ iE (intR (intR (intR (intR s).2).2).2).1 ++ t) := by
    intro t ht
    obtain ⟨r4, d1, d2⟩ := intR_of o3 ht.wr
    obtain ⟨r3, c1, c2⟩ := intR_of o2 d1.wr
    obtain ⟨r2, b1, b2⟩ := intR_of o1 c1.wr
    obtain ⟨r1, a1, a2⟩ := intR_of hs b1.wr
    have e4 : r4 = t := by rw [← d2.rest, ← ht.rest]
    have e3 : r3 = iE (intR (intR (intR (intR s).2).2).2).1 ++ r4 := by rw [← c2.rest, ← d1.rest]
    have e2 : r2 = iE (intR (intR (intR s).2).2).1 ++ r3 := by rw [← b2.rest, ← c1.rest]
    have e1 : r1 = iE (intR (intR s).2).1 ++ r2 := by rw [← a2.rest, ← b1.rest]
    rw [e1, e2, e3, e4] at a1
    simpa using a1
  split at h
  · rename_i ho
    split at h
    · rename_i set hset
      simp only [Option.some.injEq, Prod.mk.injEq] at h
      obtain ⟨rfl, rfl⟩ := h
      obtain ⟨r, e1, e2⟩ := rawR_of o4 hw
      have hrl := rawR_len o4
      obtain ⟨g1, g2, g3, g4⟩ := setD_of (Nat.le_trans hrl.1 o4.len) hrl.2 hset
      refine ⟨r, ?_, e2, ⟨⟨n1, n2, n3, n4, g3⟩, fun _ => ⟨g2, g4⟩, fun h => absurd ho h⟩⟩
      have := key _ e1
      rw [insE]
      simp only
      rw [if_pos ho, g1]
      simpa using this
    · cases h
  · rename_i ho
    simp only [Option.some.injEq, Prod.mk.injEq] at h
    obtain ⟨rfl, rfl⟩ := h
    refine ⟨_, ?_, ⟨hw, rfl⟩, ⟨⟨n1, n2, n3, n4, fun _ h => by simp at h⟩, fun h => absurd h ho, fun _ => rfl⟩⟩
    have := key _ ⟨hw, rfl⟩
    rw [insE]
    simp only
    rw [if_neg ho]
    simpa using this
theorem inssR_on : ∀ (l : List Ins) (s : RS) (acc : List Ins) (r : List Int), (∀ i ∈ l, InsC i) → On s (l.flatMap insE ++ r) → ∃ s', inssR l.length s acc = some (acc ++ l, s') ∧ On s' r ∧ s'.bs = s.bs
  | [], s, acc, r, _, h => ⟨s, by simp [inssR], h, rfl⟩
  | p :: l, s, acc, r, hc, h => by
    have h' : On s (insE p ++ (l.flatMap insE ++ r)) := by simpa using h
    obtain ⟨s1, a1, a2, a3⟩ := insR_on (hc p (by simp)) h'
    obtain ⟨s3, c1, c2, c3⟩ := inssR_on l s1 (acc ++ [p]) r (fun q hq => hc q (by simp [hq])) a2
    refine ⟨s3, ?_, c2, by rw [c3, a3]⟩
    simp only [List.length_cons, inssR, a1, c1]
    simp
theorem inssR_of : ∀ (k : Nat) (s : RS) (acc l : List Ins) (s' : RS), RdOk s → inssR k s acc = some (l, s') → s'.wr = 0 →
    ∃ l2 r, l = acc ++ l2 ∧ l2.length = k ∧ On s (l2.flatMap insE ++ r) ∧ On s' r ∧ ∀ i ∈ l2, InsC i
  | 0, s, acc, l, s', hs, e, hw => by
    simp only [inssR, Option.some.injEq, Prod.mk.injEq] at e
    obtain ⟨rfl, rfl⟩ := e
    exact ⟨[], s.bs.drop s.at_, by simp, rfl, ⟨hw, by simp⟩, ⟨hw, rfl⟩, fun _ h => by simp at h⟩
  | k + 1, s, acc, l, s', hs, e, hw => by
    simp only [inssR] at e
    cases hi : insR s with
    | none => rw [hi] at e; simp at e
    | some q =>
      obtain ⟨i, s1⟩ := q
      rw [hi] at e
      simp only at e
      have o1 := insR_ok hs hi
      obtain ⟨l2, r, h1, h2, h3, h4, h5⟩ := inssR_of k s1 _ l s' o1 e hw
      obtain ⟨r2, a1, a2, a3⟩ := insR_of hs hi h3.wr
      refine ⟨i :: l2, r, by rw [h1]; simp, by simp [h2], ?_, h4, ?_⟩
      · have e1 : r2 = l2.flatMap insE ++ r := by rw [← a2.rest, ← h3.rest]
        rw [e1] at a1
        simpa using a1
      · intro q hq
        rcases List.mem_cons.1 hq with e | e
        · rw [e]; exact a3
        · exact h5 q e
theorem valid_insC {g : Prg} (hv : validG g = 0) (h64 : ∀ i ∈ g.ins, Ins64 i) : (∀ i ∈ g.ins, InsC i) ∧ 1 ≤ g.ins.length ∧ g.ins.length ≤ 8192 ∧ 0 ≤ g.caps ∧ g.caps ≤ 9 := by
  unfold validG at hv
  split at hv
  · simp at hv
  · rename_i h1
    split at hv
    · simp at hv
    · rename_i h2
      split at hv
      · rename_i h3
        rw [Bool.and_eq_true, List.all_eq_true] at h3
        refine ⟨fun i hi => ⟨h64 i hi, fun ho => ?_, fun ho => ?_⟩, by omega, by omega, by omega, by omega⟩
        · have := h3.1 i hi
          simp only [okIns, ho] at this
          have hr : refSpans i.set = 0 := by
            simp at this
            exact this.2.1
          refine ⟨hr, ?_⟩
          unfold refSpans at hr
          split at hr
          · simp at hr
          · split at hr
            · simp at hr
            · omega
        · have := h3.1 i hi
          simp only [okIns, Bool.and_eq_true, Bool.or_eq_true] at this
          have h := this.1.1.1.1
          rcases h with h | h
          · exact absurd (by simpa using h) ho
          · exact List.length_eq_zero_iff.1 (by simpa using h)
      · simp at hv
/-- Decode leads back. -/
theorem prgD_on {g : Prg} (hv : validG g = 0) (h64 : ∀ i ∈ g.ins, Ins64 i) : prgD (prgE g) = some g := by
  obtain ⟨hc, h1, h2, h3, h4⟩ := valid_insC hv h64
  have h := On.start (prgE g)
  have h' : On ⟨prgE g, 0, 0⟩ (iE g.caps ++ (boolE g.runes ++ (iE g.ins.length ++ (g.ins.flatMap insE ++ [])))) := by
    refine ⟨rfl, ?_⟩
    simp [prgE]
  obtain ⟨s1, a1, a2, a3⟩ := intR_on (v := g.caps) ⟨by omega, by omega⟩ h'
  obtain ⟨s2, b1, b2, b3⟩ := boolR_on a2
  obtain ⟨s3, c1, c2, c3⟩ := intR_on (v := (g.ins.length : Int)) ⟨by omega, by omega⟩ b2
  obtain ⟨s4, d1, d2, d3⟩ := inssR_on g.ins s3 [] [] hc c2
  unfold prgD
  simp only [a1, b1, c1, Int.toNat_natCast]
  rw [if_neg (by omega), d1]
  simp only [List.nil_append]
  rw [endR_on d2, show validG ⟨g.ins, g.caps, g.runes⟩ = 0 from hv, if_neg (by simp)]
/-- What is decoded is encoded to that. -/
theorem prgD_of {bs : List Int} {g : Prg} (hl : bs.length ≤ 1000000000) (hb : ∀ x ∈ bs, 0 ≤ x ∧ x < 256) (h : prgD bs = some g) : prgE g = bs ∧ validG g = 0 ∧ In64 g.caps ∧ ∀ i ∈ g.ins, InsC i := by
  have h0 : RdOk ⟨bs, 0, 0⟩ := ⟨hl, Nat.zero_le _, hb⟩
  have o1 : RdOk (intR ⟨bs, 0, 0⟩).2 := uintR_ok h0
  have o2 : RdOk (boolR (intR ⟨bs, 0, 0⟩).2).2 := boolR_ok o1
  have o3 : RdOk (intR (boolR (intR ⟨bs, 0, 0⟩).2).2).2 := uintR_ok o2
  have n1 : In64 (intR ⟨bs, 0, 0⟩).1 := unz_64 (uintR_lt h0)
  unfold prgD at h
  simp only at h
  split at h
  · cases h
  · rename_i hn
    split at h
    · rename_i q hq
      obtain ⟨l, s4⟩ := q
      simp only at h
      split at h
      · cases h
      · rename_i he
        simp only [Option.some.injEq] at h
        subst h
        have he1 : endR s4 = 0 := by
          by_cases h : endR s4 = 0
          · exact h
          · exact absurd (.inl h) he
        have hv : validG ⟨l, (intR ⟨bs, 0, 0⟩).1, (boolR (intR ⟨bs, 0, 0⟩).2).1⟩ = 0 := by
          by_cases h : validG ⟨l, (intR ⟨bs, 0, 0⟩).1, (boolR (intR ⟨bs, 0, 0⟩).2).1⟩ = 0
          · exact h
          · exact absurd (.inr h) he
        obtain ⟨e1, e2⟩ := endR_of he1
        obtain ⟨l2, r, a1, a2, a3, a4, a5⟩ := inssR_of _ _ _ _ _ o3 hq e1
        rw [List.nil_append] at a1
        subst a1
        rw [e2 r a4, List.append_nil] at a3
        obtain ⟨r3, c1, c2⟩ := intR_of o2 a3.wr
        obtain ⟨r2, b1, b2⟩ := boolR_of o1 c1.wr
        obtain ⟨r1, d1, d2⟩ := intR_of h0 b1.wr
        refine ⟨?_, hv, n1, a5⟩
        have f3 : r3 = l.flatMap insE := by rw [← c2.rest, ← a3.rest]
        have f2 : r2 = iE (intR (boolR (intR ⟨bs, 0, 0⟩).2).2).1 ++ r3 := by rw [← b2.rest, ← c1.rest]
        have f1 : r1 = boolE (boolR (intR ⟨bs, 0, 0⟩).2).1 ++ r2 := by rw [← d2.rest, ← b1.rest]
        have f0 := d1.rest
        simp only [List.drop_zero] at f0
        rw [f1, f2, f3] at f0
        rw [prgE]
        simp only
        have hlen : (l.length : Int) = (intR (boolR (intR ⟨bs, 0, 0⟩).2).2).1 := by rw [a2, Int.toNat_of_nonneg (by omega)]
        rw [hlen]
        conv => rhs; rw [f0]
        simp
    · cases h
end Go.Ev
namespace Go.Ev
attribute [local go_sem] eq_self bindW_some bindW_map bindW_ite bindW_iteN W_seq W_region W_draw W_cond W_condK W_ret W_skip W_exit W_scope W_label W_block blockK_norm blockK_ret blockK_exit WO_nil WO_cons WO_guard WD_nil WD_cons WD_guard guardV guardW_boolT guardW_boolF guardW_tup fpL_some fpL_none footprint thenK_norm thenK_ret thenK_exit put_some put_none ev_tmp ev_con ev_func ofK_int ofK_bool ofK_str ofK_nil evOp evBuiltin evCall evLen evAppend getElem_16 getElem_4 List.length_cons List.length_nil List.cons_append List.nil_append List.append_nil if_false if_true Bool.false_eq_true Bool.true_eq_false Option.map_some Option.map_none List.map_cons List.map_nil evBinOp evBin evUn asB_bool splitB_decide splitB_true splitB_false splitB_beq splitB_bne splitB_not endK_ret endK_norm List.getElem?_cons_zero List.getElem?_cons_succ evResults evResult packRes retK_norm retK_ret cellsAt mkVal evFieldAddr evField evIndexAddr evPart evStore evBuild evBuildSlice fillC fillE evSlice evMakeSlice evConvert getRow AV.cells List.head?_cons List.drop_zero List.drop_succ_cons List.take_zero List.take_succ_cons List.drop_nil List.take_nil List.all_cons List.all_nil AV.ok Bool.and_self Bool.and_true Bool.true_and and_self and_true true_and Nat.zero_add Nat.add_zero setCells splice pairsOk pairsX altW_none altW_some cfg_al WI_nil WI_cons FP.apart heapEq_refl sameAt_refl Bool.or_true Bool.true_or Bool.or_false srcElems elemsOf mutDst roundK_norm roundK_exit roundK_ret List.length_map List.getElem?_map Int.toNat_natCast decide_true decide_false Bool.not_true Bool.not_false List.set set_0 set_1 set_2 set_3 set_4 look_hit look lookD_hit lookD_cons lookD_nil ins_hit ins upd_hit upd rem1_hit rem1 dropT dropSt_eq initT cfg_dd cfg_bd cfg_ra actL_nil actL_cons act1 updT_hit updT frzB retE_norm retE_ret bndO bnd evEq eqCells not_false_eq_true not_true_eq_false toList_some Array.size_empty List.length_append List.map_append endE_norm endE_ret head_take1 List.contains_nil List.contains_cons Bool.or_self dlt_t dlt_f dle_t dle_f dgt_t dgt_f dge_t dge_f beq_t beq_f bne_t bne_f lt_T le_T nle_T nle_F Go.IntWalk.i64_in Go.IntWalk.i64_quo Go.IntWalk.rem_in ty0 ty3 ty4
section
attribute [local go_sem] ty23 ty33 ty35 ty39 ty41 ty104 ty108
open Go.Proofs Go.RowKit Go.IntWalk
set_option maxRecDepth 100000
set_option linter.unusedSimpArgs false
set_option linter.unusedVariables false
set_option maxHeartbeats 4000000
def T24 (caps : Int) (runes : Bool) (g : AV) : List Ins → St
  | [] => (⟨40, [(4, I 0), (3, .rf 2 1 0 0), (2, .rf 1 1 0 0), (1, .rf 0 1 0 0)], [.row 3 [g] 0, .row 3 [.agg [.sl true [], I 0, .bool false]] 0, .row 3 [.agg [.sl true [], I caps, .bool runes]] 0]⟩ : St)
  | x :: xs => (⟨40, [(4, I ((xs.length + 1 : Nat) : Int)), (3, .rf 2 1 0 0), (2, .rf 1 1 0 0), (1, .rf 0 1 0 0)], [.row 3 [g] 0, .row 3 [.agg [.sl true [], I 0, .bool false]] 0, .row 3 [.agg [.ms 4 5 (xs.length + 1) 0 (xs.length + 1), I caps, .bool runes]] 0, .row 5 [insAV x] 0, .row 5 (insAV x :: xs.map insAV) 0]⟩ : St)

theorem f24 (g : Prg) (hl : g.ins.length ≤ 1000000) (H : List MB) : call Try.prog pol1 24 [prgAV g] H = some (prgAV g, H) := by
  refine call_run Try.func24 rfl rfl rfl rfl rfl rfl (fun _ => rfl) (by simp [AV.plain, AV.plainL, plain_ints, plain_span, plain_ins, plain_prg]) (by simp [AV.plain, AV.plainL, plain_ints, plain_span, plain_ins, plain_prg]) ?_ H
  simp +contextual (disch := omega) only [Try.f24, dd24, go_sem, ↓reduceIte, List.reduceReplicate, Nat.reduceAdd, Nat.reduceSub, reduceCtorEq, Nat.reduceLeDiff, Nat.reduceMul, Nat.reduceLT, Nat.reduceEqDiff, Int.reduceBNe, Int.reduceBEq, Int.reduceEq, Int.reduceLT, Int.reduceLE, Int.reduceGT, Int.reduceGE, mu24, Nat.reduceBEq, ↓wrap_up, ↓wrap_down, ↓wrap_pred, ↓wrap_sub_nat, Int.reduceToNat]
  refine W_count (M := (mskOf (pol1.mask 24) (pol1.gc 24) (pol1.acts 24) 0 3)) rfl g.ins.length (fun i => T24 g.caps g.runes (prgAV g) (g.ins.take i)) (fun i => True) ?_ ?_ trivial _ (by first | rfl | (refine prep_cut rfl (by rfl) (by rfl) (by rfl) ?_ ?_ <;> simp [AV.underL, AV.under, MB.under, underL_plain, under_plain, plain_ints, plain_span, plain_ins, plain_prg, -List.map_take]))
  · intro i hi _
    obtain ⟨p, hp⟩ : ∃ p, g.ins[i]? = some p := ⟨_, List.getElem?_eq_getElem hi⟩
    have hlen : (g.ins.take i).length = i := by simp; omega
    rw [List.take_add_one, hp]
    generalize g.ins.take i = xs at *
    cases xs with
    | nil =>
      simp only [List.length_nil] at hlen
      subst hlen
      simp only [T24]
      simp +contextual (disch := omega) only [Try.f24, dd24, go_sem, ↓reduceIte, List.reduceReplicate, Nat.reduceAdd, Nat.reduceSub, reduceCtorEq, Nat.reduceLeDiff, Nat.reduceMul, Nat.reduceLT, Nat.reduceEqDiff, Int.reduceBNe, Int.reduceBEq, Int.reduceEq, Int.reduceLT, Int.reduceLE, Int.reduceGT, Int.reduceGE, mu24, Nat.reduceBEq, ↓wrap_up, ↓wrap_down, ↓wrap_pred, ↓wrap_sub_nat, Int.reduceToNat, hp]
      exact ⟨by simp [roomFor], (by first | rfl | (refine prep_cut rfl (by rfl) (by rfl) (by rfl) ?_ ?_ <;> simp [AV.underL, AV.under, MB.under, underL_plain, under_plain, plain_ints, plain_span, plain_ins, plain_prg, -List.map_take]))⟩
    | cons x xs =>
      simp only [List.length_cons] at hlen
      subst hlen
      simp only [T24]
      simp +contextual (disch := omega) only [Try.f24, dd24, go_sem, ↓reduceIte, List.reduceReplicate, Nat.reduceAdd, Nat.reduceSub, reduceCtorEq, Nat.reduceLeDiff, Nat.reduceMul, Nat.reduceLT, Nat.reduceEqDiff, Int.reduceBNe, Int.reduceBEq, Int.reduceEq, Int.reduceLT, Int.reduceLE, Int.reduceGT, Int.reduceGE, mu24, Nat.reduceBEq, ↓wrap_up, ↓wrap_down, ↓wrap_pred, ↓wrap_sub_nat, Int.reduceToNat, hp]
      refine ⟨by simp [roomFor]; omega, ?_⟩
      refine prep_cut (n := 5) rfl (by rfl) rfl ?_ ?_ ?_
      · simp [List.take_of_length_le]
      · simp [AV.underL, AV.under]
      · simp [AV.underL, AV.under, MB.under, underL_plain, under_plain, plain_span, plain_ins, plain_prg, underL_append]
  · intro _
    rw [List.take_length]
    rcases g with ⟨ins, caps, runes⟩
    cases ins with
    | nil =>
      simp only [T24]
      simp +contextual (disch := omega) only [Try.f24, dd24, go_sem, ↓reduceIte, List.reduceReplicate, Nat.reduceAdd, Nat.reduceSub, reduceCtorEq, Nat.reduceLeDiff, Nat.reduceMul, Nat.reduceLT, Nat.reduceEqDiff, Int.reduceBNe, Int.reduceBEq, Int.reduceEq, Int.reduceLT, Int.reduceLE, Int.reduceGT, Int.reduceGE, mu24, Nat.reduceBEq, ↓wrap_up, ↓wrap_down, ↓wrap_pred, ↓wrap_sub_nat, Int.reduceToNat]
      exact ⟨_, rfl⟩
    | cons x xs =>
      simp only [T24]
      simp +contextual (disch := omega) only [Try.f24, dd24, go_sem, ↓reduceIte, List.reduceReplicate, Nat.reduceAdd, Nat.reduceSub, reduceCtorEq, Nat.reduceLeDiff, Nat.reduceMul, Nat.reduceLT, Nat.reduceEqDiff, Int.reduceBNe, Int.reduceBEq, Int.reduceEq, Int.reduceLT, Int.reduceLE, Int.reduceGT, Int.reduceGE, mu24, Nat.reduceBEq, ↓wrap_up, ↓wrap_down, ↓wrap_pred, ↓wrap_sub_nat, Int.reduceToNat]
      simp only [fz, fzA_agg, fzL]
      rw [fzA_ms (n := 5) (els := insAV x :: xs.map insAV) (k := 5) (z := 0) rfl (by simp) (by simp)
        (by rw [List.drop_zero, List.take_of_length_le (by simp)]; exact fzL_plain _ _ _ (plain_ins (x :: xs)))]
      exact ⟨_, rfl⟩
end
section
attribute [local go_sem] tySzE List.head?_drop Nat.mul_one sameAt_zero sameAt_two sameAt_three sameAt_four sameAt_five room_ok ty22 ty23 ty33 ty35 ty39 ty41 ty104 ty108
open Go.Proofs Go.RowKit Go.IntWalk
set_option maxRecDepth 100000
set_option linter.unusedSimpArgs false
set_option linter.unusedVariables false
set_option maxHeartbeats 4000000

theorem tab_get {l : List Int} {k : Nat} (h : k < l.length) : (l.map I)[k]? = some (I (l.getD k 0)) := by
  rw [List.getElem?_map, List.getElem?_eq_getElem h, List.getD_eq_getElem?_getD, List.getElem?_eq_getElem h]; rfl

theorem f17 (g : Prg) (hl : g.ins.length ≤ 1000000) (H : List MB) : call Try.prog pol1 17 [prgAV g] H = some (prgAV g, H) := by
  refine call_run Try.func17 rfl rfl rfl rfl rfl rfl (fun _ => rfl) (by simp [AV.plain, AV.plainL, plain_ints, plain_span, plain_ins, plain_prg]) (by simp [AV.plain, AV.plainL, plain_ints, plain_span, plain_ins, plain_prg]) ?_ H
  simp +contextual (disch := omega) only [Try.f17, dd17, go_sem, ↓reduceIte, List.reduceReplicate, Nat.reduceAdd, Nat.reduceSub, reduceCtorEq, Nat.reduceLeDiff, Nat.reduceMul, Nat.reduceLT, Nat.reduceEqDiff, Int.reduceBNe, Int.reduceBEq, Int.reduceEq, Int.reduceLT, Int.reduceLE, Int.reduceGT, Int.reduceGE, mu17, Nat.reduceBEq, ↓wrap_up, ↓wrap_down, ↓wrap_pred, ↓wrap_sub_nat, Int.reduceToNat]
  refine W_count (M := (mskOf (pol1.mask 17) (pol1.gc 17) (pol1.acts 17) 0 3)) rfl g.ins.length (fun i => (⟨40, [(4, I i), (3, .rf 2 1 0 0), (2, .rf 1 1 0 0), (1, .rf 0 1 0 0)], [.row 3 [prgAV g] 0, .row 3 [.agg [.sl true [], I 0, .bool false]] 0,
    .row 3 [.agg [.ms 3 5 i 0 i, I g.caps, .bool g.runes]] 0, .row 5 ((g.ins.take i).map insAV) 0]⟩ : St)) (fun i => True) ?_ ?_ trivial _ (by first | rfl | (refine prep_to (n := 4) (m := ⟨some [4, 3, 2, 1], some 4, []⟩) rfl rfl ?_ ?_ ?_ <;> first | rfl | (simp [keepT, AV.underL, AV.under, MB.under, underL_plain, under_plain, underL_append, plain_ints, plain_span, plain_ins, plain_prg, -List.map_take, -List.map_replicate, -List.map_set]; done) | (simp [keepT, AV.underL, AV.under, MB.under, underL_plain, under_plain, underL_append, plain_ints, plain_span, plain_ins, plain_prg, -List.map_take, -List.map_replicate, -List.map_set]; omega)))
  · intro i hi _
    obtain ⟨p, hp⟩ : ∃ p, g.ins[i]? = some p := ⟨_, List.getElem?_eq_getElem hi⟩
    have hlen : (g.ins.take i).length = i := by simp; omega
    rw [List.take_add_one, hp]
    generalize g.ins.take i = xs at *
    have htk := take_map_len (f := insAV) hlen
    simp +contextual (disch := omega) only [Try.f17, dd17, go_sem, ↓reduceIte, List.reduceReplicate, Nat.reduceAdd, Nat.reduceSub, reduceCtorEq, Nat.reduceLeDiff, Nat.reduceMul, Nat.reduceLT, Nat.reduceEqDiff, Int.reduceBNe, Int.reduceBEq, Int.reduceEq, Int.reduceLT, Int.reduceLE, Int.reduceGT, Int.reduceGE, mu17, Nat.reduceBEq, ↓wrap_up, ↓wrap_down, ↓wrap_pred, ↓wrap_sub_nat, Int.reduceToNat, hp, hlen, htk]
    repeat' (first | intro _ | apply And.intro | (unfold dOk; kernel_rfl) | exact St.beq_refl _ | (show altO _ _ _ _ = true; kernel_rfl) | (show (_ || _) = true; kernel_rfl) | (show (_ && _) = true; kernel_rfl))
    exact (by first | rfl | (refine prep_to (n := 4) (m := ⟨some [4, 3, 2, 1], some 4, []⟩) rfl rfl ?_ ?_ ?_ <;> first | rfl | (simp [keepT, AV.underL, AV.under, MB.under, underL_plain, under_plain, underL_append, plain_ints, plain_span, plain_ins, plain_prg, -List.map_take, -List.map_replicate, -List.map_set]; done) | (simp [keepT, AV.underL, AV.under, MB.under, underL_plain, under_plain, underL_append, plain_ints, plain_span, plain_ins, plain_prg, -List.map_take, -List.map_replicate, -List.map_set]; omega)))
  · intro _
    rw [List.take_length]
    simp +contextual (disch := omega) only [Try.f17, dd17, go_sem, ↓reduceIte, List.reduceReplicate, Nat.reduceAdd, Nat.reduceSub, reduceCtorEq, Nat.reduceLeDiff, Nat.reduceMul, Nat.reduceLT, Nat.reduceEqDiff, Int.reduceBNe, Int.reduceBEq, Int.reduceEq, Int.reduceLT, Int.reduceLE, Int.reduceGT, Int.reduceGE, mu17, Nat.reduceBEq, ↓wrap_up, ↓wrap_down, ↓wrap_pred, ↓wrap_sub_nat, Int.reduceToNat]
    simp only [fz, fzA_agg, fzL]
    rw [fzA_row (els := g.ins.map insAV) (k := 5) (z := 0) rfl (by simp) (plain_ins _)]
    exact ⟨_, rfl⟩

/-- The text: for each number a symbol. -/
def symI (n : Int) (runes : Bool) : Int :=
  if runes = true ∧ n / 14 % 4 = 0 then ([127, 128, 2047, 2048, 55295, 57344, 65535, 65536, 1114111, 8364] : List Int).getD (n / 56 % 10).toNat 0
  else ([97, 98, 99, 97, 90, 48, 95, 10, 32, 98, 228, 255, 0, 128] : List Int).getD (n % 14).toNat 0
def textI (l : List Int) (most : Nat) (runes : Bool) : List Int := (l.take most).map fun x => symI (aroundI x 1048576) runes

theorem f22 (l : List Int) (hl : ∀ x ∈ l, In64 x) (most : Nat) (hm : most ≤ 1000) (runes : Bool) (H : List MB) :
    call Try.prog pol1 22 [.sl false (l.map I), I most, .bool runes] H = some (.sl false ((textI l most runes).map I), H) := by
  refine call_run Try.func22 rfl rfl rfl rfl rfl rfl (fun _ => rfl) (by simp [AV.plain, AV.plainL, plain_ints, plain_span, plain_ins, plain_prg]) (by simp [AV.plain, AV.plainL, plain_ints, plain_span, plain_ins, plain_prg]) ?_ H
  simp +contextual (disch := omega) only [Try.f22, dd22, go_sem, ↓reduceIte, List.reduceReplicate, Nat.reduceAdd, Nat.reduceSub, reduceCtorEq, Nat.reduceLeDiff, Nat.reduceMul, Nat.reduceLT, Nat.reduceEqDiff, Int.reduceBNe, Int.reduceBEq, Int.reduceEq, Int.reduceLT, Int.reduceLE, Int.reduceGT, Int.reduceGE, mu22, Nat.reduceBEq, ↓wrap_up, ↓wrap_down, ↓wrap_pred, ↓wrap_sub_nat, Int.reduceToNat]
  refine W_count (M := (mskOf (pol1.mask 22) (pol1.gc 22) (pol1.acts 22) 0 3)) rfl (min l.length most) (fun i => (⟨50, [(8, I i), (7, .ms 0 1 i 0 i), (2, .bool runes), (1, I most), (0, .sl false (l.map I))], [.row 1 ((textI (l.take i) most runes).map I) 0]⟩ : St)) (fun i => True) ?_ ?_ trivial _ (by first | rfl | (refine prep_to (n := 1) (m := ⟨some [8, 7, 2, 1, 0], some 1, []⟩) rfl rfl ?_ ?_ ?_ <;> first | rfl | (simp [keepT, AV.underL, AV.under, MB.under, underL_plain, under_plain, underL_append, plain_ints, plain_span, plain_ins, plain_prg, -List.map_take, -List.map_replicate, -List.map_set, textI]; done) | (simp [keepT, AV.underL, AV.under, MB.under, underL_plain, under_plain, underL_append, plain_ints, plain_span, plain_ins, plain_prg, -List.map_take, -List.map_replicate, -List.map_set, textI]; omega)))
  · intro i hi _
    obtain ⟨p, hp⟩ : ∃ p, l[i]? = some p := ⟨_, List.getElem?_eq_getElem (by omega)⟩
    have h12 := f12 p 1048576 (hl p (List.mem_of_getElem? hp)) (by omega)
    have hlt := around_lt (n := p) (m := 1048576) (by omega)
    have hlen : (textI (l.take i) most runes).length = i := by simp [textI]; omega
    have hnx : textI (l.take (i + 1)) most runes = textI (l.take i) most runes ++ [symI (aroundI p 1048576) runes] := by
      unfold textI
      rw [List.take_of_length_le (l := l.take (i + 1)) (by simp; omega), List.take_of_length_le (l := l.take i) (by simp; omega), List.take_add_one, hp]
      simp
    rw [hnx]
    generalize textI (l.take i) most runes = xs at *
    generalize hq : aroundI p 1048576 = q at *
    have htk := take_map_len (f := I) hlen
    have h14 : ([I 97, I 98, I 99, I 97, I 90, I 48, I 95, I 10, I 32, I 98, I 228, I 255, I 0, I 128] : List AV)[(q % 14).toNat]? = some (I (([97, 98, 99, 97, 90, 48, 95, 10, 32, 98, 228, 255, 0, 128] : List Int).getD (q % 14).toNat 0)) := tab_get (l := ([97, 98, 99, 97, 90, 48, 95, 10, 32, 98, 228, 255, 0, 128] : List Int)) (by simp only [List.length_cons, List.length_nil]; omega)
    have h10 : ([I 127, I 128, I 2047, I 2048, I 55295, I 57344, I 65535, I 65536, I 1114111, I 8364] : List AV)[(q / 56 % 10).toNat]? = some (I (([127, 128, 2047, 2048, 55295, 57344, 65535, 65536, 1114111, 8364] : List Int).getD (q / 56 % 10).toNat 0)) := tab_get (l := ([127, 128, 2047, 2048, 55295, 57344, 65535, 65536, 1114111, 8364] : List Int)) (by simp only [List.length_cons, List.length_nil]; omega)
    by_cases hrun : runes = true ∧ q / 14 % 4 = 0
    · obtain ⟨rfl, h4⟩ := hrun
      simp +contextual (disch := omega) only [Try.f22, dd22, go_sem, ↓reduceIte, List.reduceReplicate, Nat.reduceAdd, Nat.reduceSub, reduceCtorEq, Nat.reduceLeDiff, Nat.reduceMul, Nat.reduceLT, Nat.reduceEqDiff, Int.reduceBNe, Int.reduceBEq, Int.reduceEq, Int.reduceLT, Int.reduceLE, Int.reduceGT, Int.reduceGE, mu22, Nat.reduceBEq, ↓wrap_up, ↓wrap_down, ↓wrap_pred, ↓wrap_sub_nat, Int.reduceToNat, hp, hlen, htk, h12, h14, h10, h4]
      rw [show symI q true = ([127, 128, 2047, 2048, 55295, 57344, 65535, 65536, 1114111, 8364] : List Int).getD (q / 56 % 10).toNat 0 from if_pos ⟨rfl, h4⟩]
      exact (by first | rfl | (refine prep_to (n := 1) (m := ⟨some [8, 7, 2, 1, 0], some 1, []⟩) rfl rfl ?_ ?_ ?_ <;> first | rfl | (simp [keepT, AV.underL, AV.under, MB.under, underL_plain, under_plain, underL_append, plain_ints, plain_span, plain_ins, plain_prg, -List.map_take, -List.map_replicate, -List.map_set]; done) | (simp [keepT, AV.underL, AV.under, MB.under, underL_plain, under_plain, underL_append, plain_ints, plain_span, plain_ins, plain_prg, -List.map_take, -List.map_replicate, -List.map_set]; omega)))
    · rw [show symI q runes = ([97, 98, 99, 97, 90, 48, 95, 10, 32, 98, 228, 255, 0, 128] : List Int).getD (q % 14).toNat 0 from if_neg hrun]
      cases runes
      · simp +contextual (disch := omega) only [Try.f22, dd22, go_sem, ↓reduceIte, List.reduceReplicate, Nat.reduceAdd, Nat.reduceSub, reduceCtorEq, Nat.reduceLeDiff, Nat.reduceMul, Nat.reduceLT, Nat.reduceEqDiff, Int.reduceBNe, Int.reduceBEq, Int.reduceEq, Int.reduceLT, Int.reduceLE, Int.reduceGT, Int.reduceGE, mu22, Nat.reduceBEq, ↓wrap_up, ↓wrap_down, ↓wrap_pred, ↓wrap_sub_nat, Int.reduceToNat, hp, hlen, htk, h12, h14]
        exact (by first | rfl | (refine prep_to (n := 1) (m := ⟨some [8, 7, 2, 1, 0], some 1, []⟩) rfl rfl ?_ ?_ ?_ <;> first | rfl | (simp [keepT, AV.underL, AV.under, MB.under, underL_plain, under_plain, underL_append, plain_ints, plain_span, plain_ins, plain_prg, -List.map_take, -List.map_replicate, -List.map_set]; done) | (simp [keepT, AV.underL, AV.under, MB.under, underL_plain, under_plain, underL_append, plain_ints, plain_span, plain_ins, plain_prg, -List.map_take, -List.map_replicate, -List.map_set]; omega)))
      · have h4 : ¬ q / 14 % 4 = 0 := fun h => hrun ⟨rfl, h⟩
        simp +contextual (disch := omega) only [Try.f22, dd22, go_sem, ↓reduceIte, List.reduceReplicate, Nat.reduceAdd, Nat.reduceSub, reduceCtorEq, Nat.reduceLeDiff, Nat.reduceMul, Nat.reduceLT, Nat.reduceEqDiff, Int.reduceBNe, Int.reduceBEq, Int.reduceEq, Int.reduceLT, Int.reduceLE, Int.reduceGT, Int.reduceGE, mu22, Nat.reduceBEq, ↓wrap_up, ↓wrap_down, ↓wrap_pred, ↓wrap_sub_nat, Int.reduceToNat, hp, hlen, htk, h12, h14, h4]
        exact (by first | rfl | (refine prep_to (n := 1) (m := ⟨some [8, 7, 2, 1, 0], some 1, []⟩) rfl rfl ?_ ?_ ?_ <;> first | rfl | (simp [keepT, AV.underL, AV.under, MB.under, underL_plain, under_plain, underL_append, plain_ints, plain_span, plain_ins, plain_prg, -List.map_take, -List.map_replicate, -List.map_set]; done) | (simp [keepT, AV.underL, AV.under, MB.under, underL_plain, under_plain, underL_append, plain_ints, plain_span, plain_ins, plain_prg, -List.map_take, -List.map_replicate, -List.map_set]; omega)))
  · intro _
    have hall : textI (l.take (min l.length most)) most runes = textI l most runes := by
      unfold textI
      rw [List.take_take]
      congr 1
      rcases Nat.le_total l.length most with h | h
      · rw [List.take_of_length_le (by omega), List.take_of_length_le h]
      · rw [show min most (min l.length most) = most by omega]
    have hlen : (textI l most runes).length = min l.length most := by simp [textI]; omega
    rw [hall]
    simp +contextual (disch := omega) only [Try.f22, dd22, go_sem, ↓reduceIte, List.reduceReplicate, Nat.reduceAdd, Nat.reduceSub, reduceCtorEq, Nat.reduceLeDiff, Nat.reduceMul, Nat.reduceLT, Nat.reduceEqDiff, Int.reduceBNe, Int.reduceBEq, Int.reduceEq, Int.reduceLT, Int.reduceLE, Int.reduceGT, Int.reduceGE, mu22, Nat.reduceBEq, ↓wrap_up, ↓wrap_down, ↓wrap_pred, ↓wrap_sub_nat, Int.reduceToNat]
    repeat' (first | intro _ | apply And.intro | (unfold dOk; kernel_rfl) | exact St.beq_refl _ | (show altO _ _ _ _ = true; kernel_rfl) | (show (_ || _) = true; kernel_rfl) | (show (_ && _) = true; kernel_rfl))
    all_goals exact ⟨_, fz_row rfl (by simp [hlen]) (plain_ints _)⟩

theorem f27 (l : List Int) (n : Nat) (hn : n ≤ 1000) (H : List MB) : call Try.prog pol1 27 [.sl false (l.map I), I n] H = some (.sl false ((l.take n).map I), H) := by
  refine call_run Try.func27 rfl rfl rfl rfl rfl rfl (fun _ => rfl) (by simp [AV.plain, AV.plainL, plain_ints]) (by simp only [AV.plain, plain_ints]; rfl) ?_ H
  have hm : (if (n : Int) < l.length then (n : Int) else l.length) = (min l.length n : Nat) := by split <;> omega
  have htk : (l.map I).take (min l.length n) = (l.take n).map I := by
    rw [← List.map_take]; congr 1
    rcases Nat.le_total l.length n with h | h
    · rw [show min l.length n = l.length by omega, List.take_length, List.take_of_length_le h]
    · rw [show min l.length n = n by omega]
  have hle : (min l.length n : Nat) ≤ l.length := by omega
  have hall : ((l.map I).all fun y => decide (y.cells.length = 1)) = true := by simp [AV.cells]
  by_cases h0 : l.take n = []
  · simp +contextual (disch := omega) only [Try.f27, dd27, go_sem, ↓reduceIte, List.reduceReplicate, Nat.reduceAdd, Nat.reduceSub, reduceCtorEq, Nat.reduceLeDiff, Nat.reduceMul, Nat.reduceLT, Nat.reduceEqDiff, Int.reduceBNe, Int.reduceBEq, Int.reduceEq, Int.reduceLT, Int.reduceLE, Int.reduceGT, Int.reduceGE, mu27, Nat.reduceBEq, ↓wrap_up, ↓wrap_down, ↓wrap_pred, ↓wrap_sub_nat, Int.reduceToNat, evMin, hm, htk, h0]
    repeat' (first | intro _ | apply And.intro | (unfold dOk; kernel_rfl) | exact St.beq_refl _ | (show altO _ _ _ _ = true; kernel_rfl) | (show (_ || _) = true; kernel_rfl) | (show (_ && _) = true; kernel_rfl))
    · exact hall
    · exact ⟨_, rfl⟩
  · obtain ⟨x, xs, hx⟩ : ∃ x xs, l.take n = x :: xs := by
      cases h : l.take n with
      | nil => exact absurd h h0
      | cons x xs => exact ⟨x, xs, rfl⟩
    have hlx : xs.length + 1 ≤ n := by
      have : (l.take n).length ≤ n := by simp; omega
      rw [hx] at this; simpa using this
    have hal2 := all_int1 (x :: xs)
    simp +contextual (disch := omega) only [Try.f27, dd27, go_sem, ↓reduceIte, List.reduceReplicate, Nat.reduceAdd, Nat.reduceSub, reduceCtorEq, Nat.reduceLeDiff, Nat.reduceMul, Nat.reduceLT, Nat.reduceEqDiff, Int.reduceBNe, Int.reduceBEq, Int.reduceEq, Int.reduceLT, Int.reduceLE, Int.reduceGT, Int.reduceGE, mu27, Nat.reduceBEq, ↓wrap_up, ↓wrap_down, ↓wrap_pred, ↓wrap_sub_nat, Int.reduceToNat, evMin, hm, htk, hx, hlx]
    repeat' (first | intro _ | apply And.intro | (unfold dOk; kernel_rfl) | exact St.beq_refl _ | (show altO _ _ _ _ = true; kernel_rfl) | (show (_ || _) = true; kernel_rfl) | (show (_ && _) = true; kernel_rfl))
    · exact hall
    · exact hal2
    · exact ⟨_, fz_row (els := (x :: xs).map I) rfl (by simp) (plain_ints _)⟩
end
section
attribute [local go_sem] tySzE List.head?_drop Nat.mul_one sameAt_zero sameAt_two sameAt_three sameAt_four sameAt_five room_ok ty23 ty39 ty41 ty86 ty108
open Go.Proofs Go.RowKit Go.IntWalk
set_option maxRecDepth 100000
set_option linter.unusedSimpArgs false
set_option linter.unusedVariables false
set_option maxHeartbeats 8000000

theorem f56 (l : List (Int × Int)) (hl : l.length ≤ 1000000) (H : List MB) : call Try.prog pol1 56 [.sl false (l.map spanAV), .sl false (l.map spanAV)] H = some (.bool true, H) := by
  refine call_run Try.func56 rfl rfl rfl rfl rfl rfl (fun _ => rfl) (by simp [AV.plain, AV.plainL, plain_span]) rfl ?_ H
  have hfk : flatKinds Try.prog 86 = some [true, true] := by kernel_rfl
  simp +contextual (disch := omega) only [Try.f56, dd56, go_sem, ↓reduceIte, List.reduceReplicate, Nat.reduceAdd, Nat.reduceSub, reduceCtorEq, Nat.reduceLeDiff, Nat.reduceMul, Nat.reduceLT, Nat.reduceEqDiff, Int.reduceBNe, Int.reduceBEq, Int.reduceEq, Int.reduceLT, Int.reduceLE, Int.reduceGT, Int.reduceGE, mu56, Nat.reduceBEq, ↓wrap_up, ↓wrap_down, ↓wrap_pred, ↓wrap_sub_nat, Int.reduceToNat]
  refine W_count (M := (mskOf (pol1.mask 56) (pol1.gc 56) (pol1.acts 56) 0 4)) rfl l.length (fun i => (⟨26, [(5, I i), (1, .sl false (l.map spanAV)), (0, .sl false (l.map spanAV))], []⟩ : St)) (fun _ => True) ?_ ?_ trivial _ (by first | rfl | (simp [keepT, AV.underL, AV.under, MB.under, underL_plain, under_plain, underL_append, plain_ints, plain_span, plain_ins, plain_prg, -List.map_take, -List.map_replicate, -List.map_set]; done))
  · intro i hi _
    obtain ⟨p, hp⟩ : ∃ p, l[i]? = some p := ⟨_, List.getElem?_eq_getElem hi⟩
    simp +contextual (disch := omega) only [Try.f56, dd56, go_sem, ↓reduceIte, List.reduceReplicate, Nat.reduceAdd, Nat.reduceSub, reduceCtorEq, Nat.reduceLeDiff, Nat.reduceMul, Nat.reduceLT, Nat.reduceEqDiff, Int.reduceBNe, Int.reduceBEq, Int.reduceEq, Int.reduceLT, Int.reduceLE, Int.reduceGT, Int.reduceGE, mu56, Nat.reduceBEq, ↓wrap_up, ↓wrap_down, ↓wrap_pred, ↓wrap_sub_nat, Int.reduceToNat, hp, hfk, beq_self_eq_true]
    repeat' (first | intro _ | apply And.intro | (unfold dOk; kernel_rfl) | exact St.beq_refl _ | (show altO _ _ _ _ = true; kernel_rfl) | (show (_ || _) = true; kernel_rfl) | (show (_ && _) = true; kernel_rfl))
    exact (by first | rfl | (simp [keepT, AV.underL, AV.under, MB.under, underL_plain, under_plain, underL_append, plain_ints, plain_span, plain_ins, plain_prg, -List.map_take, -List.map_replicate, -List.map_set]; done))
  · intro _
    simp +contextual (disch := omega) only [Try.f56, dd56, go_sem, ↓reduceIte, List.reduceReplicate, Nat.reduceAdd, Nat.reduceSub, reduceCtorEq, Nat.reduceLeDiff, Nat.reduceMul, Nat.reduceLT, Nat.reduceEqDiff, Int.reduceBNe, Int.reduceBEq, Int.reduceEq, Int.reduceLT, Int.reduceLE, Int.reduceGT, Int.reduceGE, mu56, Nat.reduceBEq, ↓wrap_up, ↓wrap_down, ↓wrap_pred, ↓wrap_sub_nat, Int.reduceToNat]
    exact fzEq rfl rfl
theorem f16 (g : Prg) (hl : g.ins.length ≤ 1000000) (hs : ∀ i ∈ g.ins, i.set.length ≤ 1000000) (H : List MB) : call Try.prog pol1 16 [prgAV g, prgAV g] H = some (.bool true, H) := by
  refine call_run Try.func16 rfl rfl rfl rfl rfl rfl (fun _ => rfl) (by simp [AV.plain, AV.plainL, plain_ins]) rfl ?_ H
  simp +contextual (disch := omega) only [Try.f16, dd16, go_sem, ↓reduceIte, List.reduceReplicate, Nat.reduceAdd, Nat.reduceSub, reduceCtorEq, Nat.reduceLeDiff, Nat.reduceMul, Nat.reduceLT, Nat.reduceEqDiff, Int.reduceBNe, Int.reduceBEq, Int.reduceEq, Int.reduceLT, Int.reduceLE, Int.reduceGT, Int.reduceGE, mu16, Nat.reduceBEq, ↓wrap_up, ↓wrap_down, ↓wrap_pred, ↓wrap_sub_nat, Int.reduceToNat, beq_self_eq_true]
  refine W_count (M := (mskOf (pol1.mask 16) (pol1.gc 16) (pol1.acts 16) 0 4)) rfl g.ins.length (fun i => (⟨80, [(5, I i), (3, .rf 1 1 0 0), (2, .rf 0 1 0 0)], [.row 3 [prgAV g] 0, .row 3 [prgAV g] 0]⟩ : St)) (fun _ => True) ?_ ?_ trivial _ (by first | rfl | (refine prep_to (n := 2) (m := ⟨some [5, 3, 2], some 2, []⟩) rfl rfl ?_ ?_ ?_ <;> first | rfl | (simp [keepT, AV.underL, AV.under, MB.under, underL_plain, under_plain, underL_append, plain_ints, plain_span, plain_ins, plain_prg, -List.map_take, -List.map_replicate, -List.map_set]; done) | (simp [keepT, AV.underL, AV.under, MB.under, underL_plain, under_plain, underL_append, plain_ints, plain_span, plain_ins, plain_prg, -List.map_take, -List.map_replicate, -List.map_set]; omega)))
  · intro i hi _
    obtain ⟨p, hp⟩ : ∃ p, g.ins[i]? = some p := ⟨_, List.getElem?_eq_getElem hi⟩
    have h56 := f56 p.set (hs p (List.mem_of_getElem? hp))
    simp +contextual (disch := omega) only [Try.f16, dd16, go_sem, ↓reduceIte, List.reduceReplicate, Nat.reduceAdd, Nat.reduceSub, reduceCtorEq, Nat.reduceLeDiff, Nat.reduceMul, Nat.reduceLT, Nat.reduceEqDiff, Int.reduceBNe, Int.reduceBEq, Int.reduceEq, Int.reduceLT, Int.reduceLE, Int.reduceGT, Int.reduceGE, mu16, Nat.reduceBEq, ↓wrap_up, ↓wrap_down, ↓wrap_pred, ↓wrap_sub_nat, Int.reduceToNat, hp, h56, beq_self_eq_true]
    exact (by first | rfl | (refine prep_to (n := 2) (m := ⟨some [5, 3, 2], some 2, []⟩) rfl rfl ?_ ?_ ?_ <;> first | rfl | (simp [keepT, AV.underL, AV.under, MB.under, underL_plain, under_plain, underL_append, plain_ints, plain_span, plain_ins, plain_prg, -List.map_take, -List.map_replicate, -List.map_set]; done) | (simp [keepT, AV.underL, AV.under, MB.under, underL_plain, under_plain, underL_append, plain_ints, plain_span, plain_ins, plain_prg, -List.map_take, -List.map_replicate, -List.map_set]; omega)))
  · intro _
    simp +contextual (disch := omega) only [Try.f16, dd16, go_sem, ↓reduceIte, List.reduceReplicate, Nat.reduceAdd, Nat.reduceSub, reduceCtorEq, Nat.reduceLeDiff, Nat.reduceMul, Nat.reduceLT, Nat.reduceEqDiff, Int.reduceBNe, Int.reduceBEq, Int.reduceEq, Int.reduceLT, Int.reduceLE, Int.reduceGT, Int.reduceGE, mu16, Nat.reduceBEq, ↓wrap_up, ↓wrap_down, ↓wrap_pred, ↓wrap_sub_nat, Int.reduceToNat]
    exact fzEq rfl rfl

end
section
attribute [local go_sem] tySzE List.head?_drop Nat.mul_one sameAt_zero sameAt_two sameAt_three sameAt_four sameAt_five room_ok ty23 ty86
open Go.Proofs Go.RowKit Go.IntWalk
set_option maxRecDepth 100000
set_option linter.unusedSimpArgs false
set_option linter.unusedVariables false
set_option maxHeartbeats 4000000

theorem f102 (r : Bool) (H : List MB) : call Try.prog pol1 102 [.bool r] H = some (I (if r then 1114111 else 255), H) := by
  cases r
  · refine call_run Try.func102 rfl rfl rfl rfl rfl rfl (fun _ => rfl) (by simp [AV.plain, AV.plainL, plain_ints, plain_span, plain_ins, plain_prg]) (by simp [AV.plain, AV.plainL, plain_ints, plain_span, plain_ins, plain_prg]) ?_ H
    simp +contextual (disch := omega) only [Try.f102, dd102, go_sem, ↓reduceIte, List.reduceReplicate, Nat.reduceAdd, Nat.reduceSub, reduceCtorEq, Nat.reduceLeDiff, Nat.reduceMul, Nat.reduceLT, Nat.reduceEqDiff, Int.reduceBNe, Int.reduceBEq, Int.reduceEq, Int.reduceLT, Int.reduceLE, Int.reduceGT, Int.reduceGE, mu102, Nat.reduceBEq, ↓wrap_up, ↓wrap_down, ↓wrap_pred, ↓wrap_sub_nat, Int.reduceToNat]
    exact fzEq rfl rfl
  · refine call_run Try.func102 rfl rfl rfl rfl rfl rfl (fun _ => rfl) (by simp [AV.plain, AV.plainL, plain_ints, plain_span, plain_ins, plain_prg]) (by simp [AV.plain, AV.plainL, plain_ints, plain_span, plain_ins, plain_prg]) ?_ H
    simp +contextual (disch := omega) only [Try.f102, dd102, go_sem, ↓reduceIte, List.reduceReplicate, Nat.reduceAdd, Nat.reduceSub, reduceCtorEq, Nat.reduceLeDiff, Nat.reduceMul, Nat.reduceLT, Nat.reduceEqDiff, Int.reduceBNe, Int.reduceBEq, Int.reduceEq, Int.reduceLT, Int.reduceLE, Int.reduceGT, Int.reduceGE, mu102, Nat.reduceBEq, ↓wrap_up, ↓wrap_down, ↓wrap_pred, ↓wrap_sub_nat, Int.reduceToNat]
    exact fzEq rfl rfl

theorem badS_lt {l : List (Int × Int)} {top : Int} {i : Nat} {p : Int × Int} (hp : l[i]? = some p) (h : p.1 < 0 ∨ p.2 < p.1 ∨ top < p.2) : badS l top i = true := by
  simp only [badS, hp]
  rcases h with h | h | h <;> simp [h]
theorem badS_zero {l : List (Int × Int)} {top : Int} {p : Int × Int} (hp : l[0]? = some p) (h : ¬ (p.1 < 0 ∨ p.2 < p.1 ∨ top < p.2)) : badS l top 0 = false := by
  have h1 : ¬ p.1 < 0 := fun e => h (.inl e)
  have h2 : ¬ p.2 < p.1 := fun e => h (.inr (.inl e))
  have h3 : ¬ top < p.2 := fun e => h (.inr (.inr e))
  simp [badS, hp, h1, h2, h3]
theorem badS_succ {l : List (Int × Int)} {top : Int} {i : Nat} {p q : Int × Int} (hp : l[i + 1]? = some p) (hq : l[i]? = some q) (h : ¬ (p.1 < 0 ∨ p.2 < p.1 ∨ top < p.2)) : badS l top (i + 1) = decide (p.1 < q.2 + 2) := by
  have h1 : ¬ p.1 < 0 := fun e => h (.inl e)
  have h2 : ¬ p.2 < p.1 := fun e => h (.inr (.inl e))
  have h3 : ¬ top < p.2 := fun e => h (.inr (.inr e))
  simp [badS, hp, hq, h1, h2, h3]
theorem badS_hi {l : List (Int × Int)} {top : Int} {i : Nat} {q : Int × Int} (hq : l[i]? = some q) (h : badS l top i = false) : 0 ≤ q.1 ∧ q.1 ≤ q.2 ∧ q.2 ≤ top := by
  simp only [badS, hq, Bool.or_eq_false_iff, decide_eq_false_iff_not] at h
  omega

theorem f131 (l : List (Int × Int)) (top : Int) (ht : top ≤ 1114111) (hl : l.length ≤ 1000000) (H : List MB) : call Try.prog pol1 131 [.sl false (l.map spanAV), I top] H = some (.bool (spansG l top), H) := by
  refine call_run Try.func131 rfl rfl rfl rfl rfl rfl (fun _ => rfl) (by simp [AV.plain, AV.plainL, plain_span]) rfl ?_ H
  by_cases h64 : 64 < l.length
  · rw [spansG_long h64]
    simp +contextual (disch := omega) only [Try.f131, dd131, go_sem, ↓reduceIte, List.reduceReplicate, Nat.reduceAdd, Nat.reduceSub, reduceCtorEq, Nat.reduceLeDiff, Nat.reduceMul, Nat.reduceLT, Nat.reduceEqDiff, Int.reduceBNe, Int.reduceBEq, Int.reduceEq, Int.reduceLT, Int.reduceLE, Int.reduceGT, Int.reduceGE, mu131, Nat.reduceBEq, ↓wrap_up, ↓wrap_down, ↓wrap_pred, ↓wrap_sub_nat, Int.reduceToNat]
    exact fzEq rfl rfl
  · simp +contextual (disch := omega) only [Try.f131, dd131, go_sem, ↓reduceIte, List.reduceReplicate, Nat.reduceAdd, Nat.reduceSub, reduceCtorEq, Nat.reduceLeDiff, Nat.reduceMul, Nat.reduceLT, Nat.reduceEqDiff, Int.reduceBNe, Int.reduceBEq, Int.reduceEq, Int.reduceLT, Int.reduceLE, Int.reduceGT, Int.reduceGE, mu131, Nat.reduceBEq, ↓wrap_up, ↓wrap_down, ↓wrap_pred, ↓wrap_sub_nat, Int.reduceToNat]
    refine W_count (M := (mskOf (pol1.mask 131) (pol1.gc 131) (pol1.acts 131) 0 4)) rfl l.length (fun i => (⟨50, [(12, I i), (11, I l.length), (10, .sl false (l.map spanAV)), (1, I top), (0, .sl false (l.map spanAV))], []⟩ : St)) (fun i => ∀ k, k < i → badS l top k = false) ?_ ?_ (fun k h => by omega) _ (by first | rfl | (refine prep_to (n := 0) (m := ⟨some [12, 11, 10, 1, 0], some 0, []⟩) rfl rfl ?_ ?_ ?_ <;> first | rfl | (simp [keepT, AV.underL, AV.under, MB.under, underL_plain, under_plain, underL_append, plain_ints, plain_span, plain_ins, plain_prg, -List.map_take, -List.map_replicate, -List.map_set]; done) | (simp [keepT, AV.underL, AV.under, MB.under, underL_plain, under_plain, underL_append, plain_ints, plain_span, plain_ins, plain_prg, -List.map_take, -List.map_replicate, -List.map_set]; omega)))
    · intro i hlt hg
      obtain ⟨p, hp⟩ : ∃ p, l[i]? = some p := ⟨_, List.getElem?_eq_getElem hlt⟩
      have ext : badS l top i = false → ∀ k, k < i + 1 → badS l top k = false := fun h k hk => by
        rcases Nat.lt_or_ge k i with h1 | h1
        · exact hg k h1
        · obtain rfl : k = i := by omega
          exact h
      by_cases hgd : p.1 < 0 ∨ p.2 < p.1 ∨ top < p.2
      · rw [spansG_bad hlt (badS_lt hp hgd)]
        have hgd' : p.1 < 0 ∨ (¬ p.1 < 0 ∧ p.2 < p.1) ∨ (¬ p.1 < 0 ∧ ¬ p.2 < p.1 ∧ top < p.2) := by omega
        rcases hgd' with h | ⟨h, h'⟩ | ⟨h, h', h''⟩
        all_goals (
          simp +contextual (disch := omega) only [Try.f131, dd131, go_sem, ↓reduceIte, List.reduceReplicate, Nat.reduceAdd, Nat.reduceSub, reduceCtorEq, Nat.reduceLeDiff, Nat.reduceMul, Nat.reduceLT, Nat.reduceEqDiff, Int.reduceBNe, Int.reduceBEq, Int.reduceEq, Int.reduceLT, Int.reduceLE, Int.reduceGT, Int.reduceGE, mu131, Nat.reduceBEq, ↓wrap_up, ↓wrap_down, ↓wrap_pred, ↓wrap_sub_nat, Int.reduceToNat, hp, spanAV]
          repeat' (first | intro _ | apply And.intro | (unfold dOk; kernel_rfl) | exact St.beq_refl _ | (show altO _ _ _ _ = true; kernel_rfl) | (show (_ || _) = true; kernel_rfl) | (show (_ && _) = true; kernel_rfl))
          all_goals exact fzEq rfl rfl)
      · rcases i with _ | i
        · simp +contextual (disch := omega) only [Try.f131, dd131, go_sem, ↓reduceIte, List.reduceReplicate, Nat.reduceAdd, Nat.reduceSub, reduceCtorEq, Nat.reduceLeDiff, Nat.reduceMul, Nat.reduceLT, Nat.reduceEqDiff, Int.reduceBNe, Int.reduceBEq, Int.reduceEq, Int.reduceLT, Int.reduceLE, Int.reduceGT, Int.reduceGE, mu131, Nat.reduceBEq, ↓wrap_up, ↓wrap_down, ↓wrap_pred, ↓wrap_sub_nat, Int.reduceToNat, hp, spanAV]
          repeat' (first | intro _ | apply And.intro | (unfold dOk; kernel_rfl) | exact St.beq_refl _ | (show altO _ _ _ _ = true; kernel_rfl) | (show (_ || _) = true; kernel_rfl) | (show (_ && _) = true; kernel_rfl))
          · exact ext (badS_zero hp hgd) _ ‹_›
          · exact (by first | rfl | (refine prep_to (n := 0) (m := ⟨some [12, 11, 10, 1, 0], some 0, []⟩) rfl rfl ?_ ?_ ?_ <;> first | rfl | (simp [keepT, AV.underL, AV.under, MB.under, underL_plain, under_plain, underL_append, plain_ints, plain_span, plain_ins, plain_prg, -List.map_take, -List.map_replicate, -List.map_set]; done) | (simp [keepT, AV.underL, AV.under, MB.under, underL_plain, under_plain, underL_append, plain_ints, plain_span, plain_ins, plain_prg, -List.map_take, -List.map_replicate, -List.map_set]; omega)))
        · obtain ⟨q, hq⟩ : ∃ q, l[i]? = some q := ⟨_, List.getElem?_eq_getElem (by omega)⟩
          have hqb := badS_hi hq (hg i (by omega))
          have hb := badS_succ hp hq hgd
          by_cases h2 : p.1 < q.2 + 2
          · rw [spansG_bad hlt (by rw [hb]; simp [h2])]
            simp +contextual (disch := omega) only [Try.f131, dd131, go_sem, ↓reduceIte, List.reduceReplicate, Nat.reduceAdd, Nat.reduceSub, reduceCtorEq, Nat.reduceLeDiff, Nat.reduceMul, Nat.reduceLT, Nat.reduceEqDiff, Int.reduceBNe, Int.reduceBEq, Int.reduceEq, Int.reduceLT, Int.reduceLE, Int.reduceGT, Int.reduceGE, mu131, Nat.reduceBEq, ↓wrap_up, ↓wrap_down, ↓wrap_pred, ↓wrap_sub_nat, Int.reduceToNat, hp, hq, spanAV]
            repeat' (first | intro _ | apply And.intro | (unfold dOk; kernel_rfl) | exact St.beq_refl _ | (show altO _ _ _ _ = true; kernel_rfl) | (show (_ || _) = true; kernel_rfl) | (show (_ && _) = true; kernel_rfl))
            all_goals exact fzEq rfl rfl
          · simp +contextual (disch := omega) only [Try.f131, dd131, go_sem, ↓reduceIte, List.reduceReplicate, Nat.reduceAdd, Nat.reduceSub, reduceCtorEq, Nat.reduceLeDiff, Nat.reduceMul, Nat.reduceLT, Nat.reduceEqDiff, Int.reduceBNe, Int.reduceBEq, Int.reduceEq, Int.reduceLT, Int.reduceLE, Int.reduceGT, Int.reduceGE, mu131, Nat.reduceBEq, ↓wrap_up, ↓wrap_down, ↓wrap_pred, ↓wrap_sub_nat, Int.reduceToNat, hp, hq, spanAV]
            repeat' (first | intro _ | apply And.intro | (unfold dOk; kernel_rfl) | exact St.beq_refl _ | (show altO _ _ _ _ = true; kernel_rfl) | (show (_ || _) = true; kernel_rfl) | (show (_ && _) = true; kernel_rfl))
            · exact ext (by rw [hb]; simp [h2]) _ ‹_›
            · exact (by first | rfl | (refine prep_to (n := 0) (m := ⟨some [12, 11, 10, 1, 0], some 0, []⟩) rfl rfl ?_ ?_ ?_ <;> first | rfl | (simp [keepT, AV.underL, AV.under, MB.under, underL_plain, under_plain, underL_append, plain_ints, plain_span, plain_ins, plain_prg, -List.map_take, -List.map_replicate, -List.map_set]; done) | (simp [keepT, AV.underL, AV.under, MB.under, underL_plain, under_plain, underL_append, plain_ints, plain_span, plain_ins, plain_prg, -List.map_take, -List.map_replicate, -List.map_set]; omega)))
    · intro hg
      rw [spansG_good (by omega) hg]
      simp +contextual (disch := omega) only [Try.f131, dd131, go_sem, ↓reduceIte, List.reduceReplicate, Nat.reduceAdd, Nat.reduceSub, reduceCtorEq, Nat.reduceLeDiff, Nat.reduceMul, Nat.reduceLT, Nat.reduceEqDiff, Int.reduceBNe, Int.reduceBEq, Int.reduceEq, Int.reduceLT, Int.reduceLE, Int.reduceGT, Int.reduceGE, mu131, Nat.reduceBEq, ↓wrap_up, ↓wrap_down, ↓wrap_pred, ↓wrap_sub_nat, Int.reduceToNat]
      exact fzEq rfl rfl
end
section
attribute [local go_sem] tySzE List.head?_drop Nat.mul_one sameAt_zero sameAt_two sameAt_three sameAt_four sameAt_five room_ok ty23 ty24 ty26 ty100
open Go.Proofs Go.RowKit Go.IntWalk
set_option maxRecDepth 100000
set_option linter.unusedSimpArgs false
set_option linter.unusedVariables false
set_option maxHeartbeats 8000000

abbrev nodeL (op : Int) (set : List (Int × Int)) (kids : List Re) (mn mx md n : Int) (neg : Bool) : List AV := [I op, .sl false (set.map spanAV), .sl false (kids.map reAV), I mn, I mx, I md, I n, .bool neg]

theorem f132 (op : Int) (set : List (Int × Int)) (kids : List Re) (mn mx md n : Int) (neg : Bool) (H : List MB) : call Try.prog pol1 132 [.pt (nodeL op set kids mn mx md n neg)] H = some (.bool (repG mn mx md), H) := by
  refine call_run Try.func132 rfl rfl rfl rfl rfl rfl (fun _ => rfl) (by simp [AV.plain, AV.plainL, plain_span, plain_kids]) rfl ?_ H
  by_cases h : mn < 0 ∨ 32 < mn ∨ md < 0 ∨ 2 < md
  · have e : repG mn mx md = false := by
      simp only [repG, Bool.and_eq_false_iff, decide_eq_false_iff_not]
      omega
    rw [e]
    have h' : mn < 0 ∨ (¬ mn < 0 ∧ 32 < mn) ∨ (¬ mn < 0 ∧ ¬ 32 < mn ∧ md < 0) ∨ (¬ mn < 0 ∧ ¬ 32 < mn ∧ ¬ md < 0 ∧ 2 < md) := by omega
    rcases h' with h | ⟨h, h1⟩ | ⟨h, h1, h2⟩ | ⟨h, h1, h2, h3⟩
    all_goals (
      simp +contextual (disch := omega) only [Try.f132, dd132, go_sem, ↓reduceIte, List.reduceReplicate, Nat.reduceAdd, Nat.reduceSub, reduceCtorEq, Nat.reduceLeDiff, Nat.reduceMul, Nat.reduceLT, Nat.reduceEqDiff, Int.reduceBNe, Int.reduceBEq, Int.reduceEq, Int.reduceLT, Int.reduceLE, Int.reduceGT, Int.reduceGE, mu132, Nat.reduceBEq, ↓wrap_up, ↓wrap_down, ↓wrap_pred, ↓wrap_sub_nat, Int.reduceToNat]
      repeat' (first | intro _ | apply And.intro | (unfold dOk; kernel_rfl) | exact St.beq_refl _ | (show altO _ _ _ _ = true; kernel_rfl) | (show (_ || _) = true; kernel_rfl) | (show (_ && _) = true; kernel_rfl))
      all_goals exact fzEq rfl rfl)
  · have e : repG mn mx md = (mx == -1 || (decide (1 ≤ mx) && decide (mx ≤ 32) && decide (mn ≤ mx))) := by
      have h1 : 0 ≤ mn := by omega
      have h2 : mn ≤ 32 := by omega
      have h3 : 0 ≤ md := by omega
      have h4 : md ≤ 2 := by omega
      simp [repG, h1, h2, h3, h4]
    rw [e]
    simp +contextual (disch := omega) only [Try.f132, dd132, go_sem, ↓reduceIte, List.reduceReplicate, Nat.reduceAdd, Nat.reduceSub, reduceCtorEq, Nat.reduceLeDiff, Nat.reduceMul, Nat.reduceLT, Nat.reduceEqDiff, Int.reduceBNe, Int.reduceBEq, Int.reduceEq, Int.reduceLT, Int.reduceLE, Int.reduceGT, Int.reduceGE, mu132, Nat.reduceBEq, ↓wrap_up, ↓wrap_down, ↓wrap_pred, ↓wrap_sub_nat, Int.reduceToNat]
    repeat' (first | intro _ | apply And.intro | (unfold dOk; kernel_rfl) | exact St.beq_refl _ | (show altO _ _ _ _ = true; kernel_rfl) | (show (_ || _) = true; kernel_rfl) | (show (_ && _) = true; kernel_rfl))
    all_goals (first | exact fzEq rfl rfl | refine fzEq rfl (congrArg AV.bool ?_))
    all_goals (rw [Bool.eq_iff_iff]; simp <;> omega)

theorem f104 (caps top : Int) (ht : top ≤ 1114111) (op : Int) (set : List (Int × Int)) (kids : List Re) (mn mx md n : Int) (neg : Bool) (hs : set.length ≤ 1000000) (hk : kids.length ≤ 1000000) (H : List MB) :
    call Try.prog pol1 104 [.pt (nodeL op set kids mn mx md n neg), I caps, I top] H = some (.bool (formedG caps top (.mk op set kids mn mx md n neg)), H) := by
  refine call_run Try.func104 rfl rfl rfl rfl rfl rfl (fun _ => rfl) (by simp [AV.plain, AV.plainL, plain_span, plain_kids]) rfl ?_ H
  have h131 := f131 set top ht hs
  have h132 := f132 op set kids mn mx md n neg
  by_cases h0 : op < 0 ∨ 11 < op
  · have e : formedG caps top (.mk op set kids mn mx md n neg) = false := by
      have : ¬ (0 ≤ op ∧ op ≤ 11) := by omega
      simp only [formedG, Bool.and_eq_false_iff, decide_eq_false_iff_not]
      omega
    rw [e]
    simp +contextual (disch := omega) only [Try.f104, dd104, go_sem, ↓reduceIte, List.reduceReplicate, Nat.reduceAdd, Nat.reduceSub, reduceCtorEq, Nat.reduceLeDiff, Nat.reduceMul, Nat.reduceLT, Nat.reduceEqDiff, Int.reduceBNe, Int.reduceBEq, Int.reduceEq, Int.reduceLT, Int.reduceLE, Int.reduceGT, Int.reduceGE, mu104, Nat.reduceBEq, ↓wrap_up, ↓wrap_down, ↓wrap_pred, ↓wrap_sub_nat, Int.reduceToNat, h131, h132]
    repeat' (first | intro _ | apply And.intro | (unfold dOk; kernel_rfl) | exact St.beq_refl _ | (show altO _ _ _ _ = true; kernel_rfl) | (show (_ || _) = true; kernel_rfl) | (show (_ && _) = true; kernel_rfl))
    all_goals exact fzEq rfl rfl
  have hop : op = 1 ∨ op = 4 ∨ op = 0 ∨ op = 2 ∨ op = 3 ∨ op = 5 ∨ op = 6 ∨ op = 7 ∨ op = 8 ∨ op = 9 ∨ op = 10 ∨ op = 11 := by omega
  clear h0
  rcases hop with rfl | rfl | rfl | rfl | rfl | rfl | rfl | rfl | rfl | rfl | rfl | rfl
  · cases hsp : spansG set top
    all_goals (
      rw [hsp] at h131
      simp +contextual (disch := omega) only [Try.f104, dd104, go_sem, ↓reduceIte, List.reduceReplicate, Nat.reduceAdd, Nat.reduceSub, reduceCtorEq, Nat.reduceLeDiff, Nat.reduceMul, Nat.reduceLT, Nat.reduceEqDiff, Int.reduceBNe, Int.reduceBEq, Int.reduceEq, Int.reduceLT, Int.reduceLE, Int.reduceGT, Int.reduceGE, mu104, Nat.reduceBEq, ↓wrap_up, ↓wrap_down, ↓wrap_pred, ↓wrap_sub_nat, Int.reduceToNat, h131, h132]
      repeat' (first | intro _ | apply And.intro | (unfold dOk; kernel_rfl) | exact St.beq_refl _ | (show altO _ _ _ _ = true; kernel_rfl) | (show (_ || _) = true; kernel_rfl) | (show (_ && _) = true; kernel_rfl))
      all_goals (clear h131 h132; refine fzEq rfl (congrArg AV.bool ?_); first | (simp_all [formedG, kidsG]; done) | (simp_all [formedG, kidsG]; omega)))
  · cases hrp : repG mn mx md
    all_goals (
      rw [hrp] at h132
      simp +contextual (disch := omega) only [Try.f104, dd104, go_sem, ↓reduceIte, List.reduceReplicate, Nat.reduceAdd, Nat.reduceSub, reduceCtorEq, Nat.reduceLeDiff, Nat.reduceMul, Nat.reduceLT, Nat.reduceEqDiff, Int.reduceBNe, Int.reduceBEq, Int.reduceEq, Int.reduceLT, Int.reduceLE, Int.reduceGT, Int.reduceGE, mu104, Nat.reduceBEq, ↓wrap_up, ↓wrap_down, ↓wrap_pred, ↓wrap_sub_nat, Int.reduceToNat, h131, h132]
      repeat' (first | intro _ | apply And.intro | (unfold dOk; kernel_rfl) | exact St.beq_refl _ | (show altO _ _ _ _ = true; kernel_rfl) | (show (_ || _) = true; kernel_rfl) | (show (_ && _) = true; kernel_rfl))
      all_goals (clear h131 h132; refine fzEq rfl (congrArg AV.bool ?_); first | (simp_all [formedG, kidsG]; done) | (simp_all [formedG, kidsG]; omega)))
  all_goals (
    simp +contextual (disch := omega) only [Try.f104, dd104, go_sem, ↓reduceIte, List.reduceReplicate, Nat.reduceAdd, Nat.reduceSub, reduceCtorEq, Nat.reduceLeDiff, Nat.reduceMul, Nat.reduceLT, Nat.reduceEqDiff, Int.reduceBNe, Int.reduceBEq, Int.reduceEq, Int.reduceLT, Int.reduceLE, Int.reduceGT, Int.reduceGE, mu104, Nat.reduceBEq, ↓wrap_up, ↓wrap_down, ↓wrap_pred, ↓wrap_sub_nat, Int.reduceToNat, h131, h132]
    repeat' (first | intro _ | apply And.intro | (unfold dOk; kernel_rfl) | exact St.beq_refl _ | (show altO _ _ _ _ = true; kernel_rfl) | (show (_ || _) = true; kernel_rfl) | (show (_ && _) = true; kernel_rfl))
    all_goals (clear h131 h132; refine fzEq rfl (congrArg AV.bool ?_); first | (simp_all [formedG, kidsG, repG]; done) | (simp_all [formedG, kidsG, repG]; omega)))
end
section
attribute [local go_sem] tySzE List.head?_drop Nat.mul_one sameAt_zero sameAt_two sameAt_three sameAt_four sameAt_five room_ok ty24 ty26
open Go.Proofs Go.RowKit Go.IntWalk
set_option maxRecDepth 100000
set_option linter.unusedSimpArgs false
set_option linter.unusedVariables false
set_option maxHeartbeats 8000000


end
section
attribute [local go_sem] tySzE List.head?_drop Nat.mul_one sameAt_zero sameAt_two sameAt_three sameAt_four sameAt_five room_ok ty24 ty26
open Go.Proofs Go.RowKit Go.IntWalk
set_option maxRecDepth 100000
set_option linter.unusedSimpArgs false
set_option linter.unusedVariables false
set_option maxHeartbeats 8000000

theorem nullAll_false : ∀ {l : List Re} {k : Re}, k ∈ l → nullG k = false → nullAll l = false
  | x :: l, k, h, hk => by
    rcases List.mem_cons.1 h with e | e
    · rw [← e]; simp [nullAll, hk]
    · simp [nullAll, nullAll_false e hk]
theorem nullAll_true : ∀ {l : List Re}, (∀ (i : Nat) (k : Re), i < l.length → l[i]? = some k → nullG k = true) → nullAll l = true
  | [], _ => by simp [nullAll]
  | x :: l, h => by
    simp only [nullAll, Bool.and_eq_true]
    exact ⟨h 0 x (by simp) rfl, nullAll_true fun i k hi hk => h (i + 1) k (by simp; omega) (by simpa using hk)⟩
theorem nullAny_true : ∀ {l : List Re} {k : Re}, k ∈ l → nullG k = true → nullAny l = true
  | x :: l, k, h, hk => by
    rcases List.mem_cons.1 h with e | e
    · rw [← e]; simp [nullAny, hk]
    · simp [nullAny, nullAny_true e hk]
theorem nullAny_false : ∀ {l : List Re}, (∀ (i : Nat) (k : Re), i < l.length → l[i]? = some k → nullG k = false) → nullAny l = false
  | [], _ => by simp [nullAny]
  | x :: l, h => by
    simp only [nullAny, Bool.or_eq_false_iff]
    exact ⟨h 0 x (by simp) rfl, nullAny_false fun i k hi hk => h (i + 1) k (by simp; omega) (by simpa using hk)⟩

end
end Go.Ev
