/- Functions of the program, each with what it computes; no further conditions. -/
import Derived.Test.YtpbobopcmhpbbaaB05
import Derived.Test.YtpbobopcmhpbbaaB13
set_option linter.unusedVariables false
set_option linter.unusedSimpArgs false
namespace Go.Ev
attribute [local go_sem] eq_self bindW_some bindW_map bindW_ite bindW_iteN W_seq W_region W_draw W_cond W_condK W_ret W_skip W_exit W_scope W_label W_block blockK_norm blockK_ret blockK_exit WO_nil WO_cons WO_guard WD_nil WD_cons WD_guard guardV guardW_boolT guardW_boolF guardW_tup fpL_some fpL_none footprint thenK_norm thenK_ret thenK_exit put_some put_none ev_tmp ev_con ev_func ofK_int ofK_bool ofK_str ofK_nil evOp evBuiltin evCall evLen evAppend getElem_16 getElem_4 List.length_cons List.length_nil List.cons_append List.nil_append List.append_nil if_false if_true Bool.false_eq_true Bool.true_eq_false Option.map_some Option.map_none List.map_cons List.map_nil evBinOp evBin evUn asB_bool splitB_decide splitB_true splitB_false splitB_beq splitB_bne splitB_not endK_ret endK_norm List.getElem?_cons_zero List.getElem?_cons_succ evResults evResult packRes retK_norm retK_ret cellsAt mkVal evFieldAddr evField evIndexAddr evPart evStore evBuild evBuildSlice fillC fillE evSlice evMakeSlice evConvert getRow AV.cells List.head?_cons List.drop_zero List.drop_succ_cons List.take_zero List.take_succ_cons List.drop_nil List.take_nil List.all_cons List.all_nil AV.ok Bool.and_self Bool.and_true Bool.true_and and_self and_true true_and Nat.zero_add Nat.add_zero setCells splice pairsOk pairsX altW_none altW_some cfg_al WI_nil WI_cons FP.apart heapEq_refl sameAt_refl Bool.or_true Bool.true_or Bool.or_false srcElems elemsOf mutDst roundK_norm roundK_exit roundK_ret List.length_map List.getElem?_map Int.toNat_natCast decide_true decide_false Bool.not_true Bool.not_false List.set set_0 set_1 set_2 set_3 set_4 look_hit look lookD_hit lookD_cons lookD_nil ins_hit ins upd_hit upd rem1_hit rem1 dropT dropSt_eq initT cfg_dd cfg_bd cfg_ra actL_nil actL_cons act1 updT_hit updT frzB retE_norm retE_ret bndO bnd evEq eqCells not_false_eq_true not_true_eq_false toList_some Array.size_empty List.length_append List.map_append tySzE List.head?_drop Nat.mul_one sameAt_zero sameAt_two sameAt_three sameAt_four sameAt_five endE_norm endE_ret head_take1 List.contains_nil List.contains_cons Bool.or_self dlt_t dlt_f dle_t dle_f dgt_t dgt_f dge_t dge_f beq_t beq_f bne_t bne_f lt_T le_T nle_T nle_F Go.IntWalk.i64_in Go.IntWalk.i64_quo Go.IntWalk.rem_in room_ok ty0 ty3 ty4
section
attribute [local go_sem] ty22 ty23 ty36 ty39 ty41 ty53 ty108 ty112 ty129 ty130
open Go.Proofs Go.RowKit Go.IntWalk
set_option maxRecDepth 100000
set_option linter.unusedSimpArgs false
set_option linter.unusedVariables false
set_option maxHeartbeats 8000000

structure S25 where
  todo : List Way
  junk : List AV
  out : List Way
  fuel : Nat

def T25 (g : Prg) (t : List Int) (pos : Int) (most : Int) (n : Nat) (s : S25) : St :=
  (⟨173, [(16, .ms 4 3 (s.todo.length + s.junk.length) 0 s.todo.length), (15, .ms 3 3 s.out.length 0 s.out.length), (5, .rf 0 1 0 0), (4, I s.fuel), (3, I most), (2, I pos), (1, .sl false (t.map I))], [.row 3 [prgAV g] 0,
    .row 3 [.agg [I 0, I pos, .ms 2 1 (2 * n) 0 (2 * n)]] 0, .row 1 ((List.replicate (2 * n) (-1 : Int)).map I) (2 * n), .row 3 (s.out.map fun w => mA (matOf pos n w)) 0, .row 3 (stA wayA s.todo ++ s.junk) 0]⟩ : St)

theorem f25 (g : Prg) (hb : PrgB g) (t : List Int) (pos most fuel : Int) (n : Nat) (hn : g.caps = n) (hc : checkG g t.length pos most fuel = 0) (hf2 : fuel ≤ 1000000) (H : List MB) :
    call Try.prog pol1 25 [prgAV g, .sl false (t.map I), I pos, I most, I fuel] H =
      some (resA pos n (runW (progOf g t) most fuel.toNat [⟨0, pos.toNat, List.replicate (2 * n) (-1)⟩] []), H) := by
  have h62 := fun ht => f62 g hb t ht pos most fuel
  rw [hc] at h62
  unfold checkG at hc
  split at hc
  · rename_i h; exact absurd hc h
  rename_i hv
  split at hc
  · cases hc
  rename_i hlen
  split at hc
  · cases hc
  rename_i hrange
  split at hc
  · cases hc
  rename_i hfuel
  have hv : validG g = 0 := by simpa using hv
  have hok := okay_of hv
  have h62 := h62 (by omega)
  have hcaps := hok.caps
  have hglen := hok.len
  obtain ⟨p0, rfl⟩ : ∃ p0 : Nat, pos = p0 := ⟨pos.toNat, by omega⟩
  obtain ⟨f0, rfl⟩ : ∃ f0 : Nat, fuel = f0 := ⟨fuel.toNat, by omega⟩
  simp only [Int.toNat_natCast]
  refine call_run Try.func25 rfl rfl rfl rfl rfl rfl (fun _ => rfl) (by simp [AV.plain, AV.plainL, plain_ints, plain_ins]) (plain_resA _ _ _) ?_ H
  generalize hR : runW (progOf g t) most f0 [⟨0, p0, List.replicate (2 * n) (-1)⟩] [] = R
  rw [hn] at h62
  simp +contextual (disch := omega) only [Try.f25, dd25, go_sem, ↓reduceIte, List.reduceReplicate, Nat.reduceAdd, Nat.reduceSub, reduceCtorEq, Nat.reduceLeDiff, Nat.reduceMul, Nat.reduceLT, Nat.reduceEqDiff, Int.reduceBNe, Int.reduceBEq, Int.reduceEq, Int.reduceLT, Int.reduceLE, Int.reduceGT, Int.reduceGE, mu25, Nat.reduceBEq, ↓wrap_up, ↓wrap_down, ↓wrap_pred, ↓wrap_sub_nat, Int.reduceToNat, h62, hn]
  clear h62
  refine W_count (M := (mskOf (pol1.mask 25) (pol1.gc 25) (pol1.acts 25) 0 6)) rfl (2 * n) (fun i => (⟨173, [(14, I i), (13, .rf 1 1 0 0), (5, .rf 0 1 0 0), (4, I f0), (3, I most), (2, I p0), (1, .sl false (t.map I))], [.row 3 [prgAV g] 0, .row 3 [.agg [I 0, I p0, .ms 2 1 i 0 i]] 0, .row 1 ((List.replicate i (-1 : Int)).map I) 0]⟩ : St))
    (fun i => True) ?_ ?_ trivial _ (by first | rfl | (refine prep_to (n := 3) (m := ⟨some [14, 13, 5, 4, 3, 2, 1], some 3, []⟩) rfl rfl ?_ ?_ ?_ <;> first | rfl | (simp [keepT, AV.underL, AV.under, MB.under, underL_plain, under_plain, underL_append, plain_ints, plain_span, plain_ins, plain_prg, -List.map_take, -List.map_replicate, -List.map_set]; done) | (simp [keepT, AV.underL, AV.under, MB.under, underL_plain, under_plain, underL_append, plain_ints, plain_span, plain_ins, plain_prg, -List.map_take, -List.map_replicate, -List.map_set]; omega)))
  · intro i hi _
    have hlen : (List.replicate i (-1 : Int)).length = i := by simp
    have hnx : (List.replicate (i + 1) (-1 : Int)) = List.replicate i (-1) ++ [-1] := List.replicate_succ'
    rw [hnx]
    generalize List.replicate i (-1 : Int) = xs at *
    have htk := take_map_len (f := I) hlen
    have e2 : (2 : Int) * (n : Int) = ((2 * n : Nat) : Int) := by omega
    simp +contextual (disch := omega) only [Try.f25, dd25, go_sem, ↓reduceIte, List.reduceReplicate, Nat.reduceAdd, Nat.reduceSub, reduceCtorEq, Nat.reduceLeDiff, Nat.reduceMul, Nat.reduceLT, Nat.reduceEqDiff, Int.reduceBNe, Int.reduceBEq, Int.reduceEq, Int.reduceLT, Int.reduceLE, Int.reduceGT, Int.reduceGE, mu25, Nat.reduceBEq, ↓wrap_up, ↓wrap_down, ↓wrap_pred, ↓wrap_sub_nat, Int.reduceToNat, hlen, htk, hn, e2]
    repeat' (first | intro _ | apply And.intro | (unfold dOk; kernel_rfl) | exact St.beq_refl _ | (show altO _ _ _ _ = true; kernel_rfl) | (show (_ || _) = true; kernel_rfl) | (show (_ && _) = true; kernel_rfl))
    exact (by first | rfl | (refine prep_to (n := 3) (m := ⟨some [14, 13, 5, 4, 3, 2, 1], some 3, []⟩) rfl rfl ?_ ?_ ?_ <;> first | rfl | (simp [keepT, AV.underL, AV.under, MB.under, underL_plain, under_plain, underL_append, plain_ints, plain_span, plain_ins, plain_prg, -List.map_take, -List.map_replicate, -List.map_set]; done) | (simp [keepT, AV.underL, AV.under, MB.under, underL_plain, under_plain, underL_append, plain_ints, plain_span, plain_ins, plain_prg, -List.map_take, -List.map_replicate, -List.map_set]; omega)))
  · intro _
    have hlen : (List.replicate (2 * n) (-1 : Int)).length = 2 * n := by simp
    have e2 : (2 : Int) * (n : Int) = ((2 * n : Nat) : Int) := by omega
    have hz : ∀ (b0 b1 b3 b4 : MB), fzs [.agg [I 0, I p0, .ms 2 1 (2 * n) 0 (2 * n)]] [b0, b1, .row 1 ((List.replicate (2 * n) (-1 : Int)).map I) 0, b3, b4] =
        some ([.agg [I 0, I p0, .sl false ((List.replicate (2 * n) (-1 : Int)).map I)]], [b0, b1, .row 1 ((List.replicate (2 * n) (-1 : Int)).map I) (2 * n), b3, b4]) := by
      intro b0 b1 b3 b4
      simp only [fzs, fzL, fzA_agg, fzA_int]
      rw [fzA_row (els := (List.replicate (2 * n) (-1 : Int)).map I) (k := 1) (z := 0) rfl (by simp) (plain_ints _)]
      simp [mark, getRow]
    simp +contextual (disch := omega) only [Try.f25, dd25, go_sem, ↓reduceIte, List.reduceReplicate, Nat.reduceAdd, Nat.reduceSub, reduceCtorEq, Nat.reduceLeDiff, Nat.reduceMul, Nat.reduceLT, Nat.reduceEqDiff, Int.reduceBNe, Int.reduceBEq, Int.reduceEq, Int.reduceLT, Int.reduceLE, Int.reduceGT, Int.reduceGE, mu25, Nat.reduceBEq, ↓wrap_up, ↓wrap_down, ↓wrap_pred, ↓wrap_sub_nat, Int.reduceToNat, hlen, hn, e2, hz, AV.beqL_refl]
    refine W_for (M := (mskOf (pol1.mask 25) (pol1.gc 25) (pol1.acts 25) 0 11)) rfl (T25 g t p0 most n) (fun s => R = runW (progOf g t) most s.fuel s.todo s.out ∧ (∀ w ∈ s.todo, WayOk g t (2 * n) w) ∧ s.fuel + s.out.length ≤ 1000000 ∧ s.todo.length + s.fuel ≤ 1000002 ∧ AV.plainL s.junk = true)
      (fun s => s.fuel) ⟨[⟨0, p0, List.replicate (2 * n) (-1)⟩], [], [], f0⟩ ?_ ⟨hR.symm, ?_, ?_, ?_, rfl⟩ _ ?_
    · rintro ⟨todo, junk, out, fuel⟩ ⟨hr, hw, ho, hl, hj⟩
      simp only at hr hw ho hl hj
      simp only [T25]
      have fin : ∀ (H' : List MB), getRow H' 3 = some (3, out.map fun w => mA (matOf p0 n w), 0) → R = some out → ∃ H2, fz (.tup [.ms 3 3 out.length 0 out.length, I 0]) H' = some (resA p0 n R, H2) := by
        intro H' h1 h2
        rw [h2]
        exact fz_tup_row h1 (by simp) (plain_matOf _ _ _)
      cases todo with
      | nil =>
        rw [runW_nil] at hr
        simp only [stA, List.reverse_nil, List.map_nil, List.length_nil]
        simp +contextual (disch := omega) only [Try.f25, dd25, go_sem, ↓reduceIte, List.reduceReplicate, Nat.reduceAdd, Nat.reduceSub, reduceCtorEq, Nat.reduceLeDiff, Nat.reduceMul, Nat.reduceLT, Nat.reduceEqDiff, Int.reduceBNe, Int.reduceBEq, Int.reduceEq, Int.reduceLT, Int.reduceLE, Int.reduceGT, Int.reduceGE, mu25, Nat.reduceBEq, ↓wrap_up, ↓wrap_down, ↓wrap_pred, ↓wrap_sub_nat, Int.reduceToNat]
        exact fin _ rfl hr
      | cons w rest =>
        have hww := hw w (List.mem_cons_self ..)
        have hrest : ∀ v ∈ rest, WayOk g t (2 * n) v := fun v hv => hw v (List.mem_cons_of_mem _ hv)
        have hls := stA_len wayA rest
        have hpl := plain_ways rest
        rw [stA_cons]
        simp only [List.length_cons] at hl ⊢
        by_cases hm : (out.length : Int) = most
        · rw [runW_full hm] at hr
          simp +contextual (disch := omega) only [Try.f25, dd25, go_sem, ↓reduceIte, List.reduceReplicate, Nat.reduceAdd, Nat.reduceSub, reduceCtorEq, Nat.reduceLeDiff, Nat.reduceMul, Nat.reduceLT, Nat.reduceEqDiff, Int.reduceBNe, Int.reduceBEq, Int.reduceEq, Int.reduceLT, Int.reduceLE, Int.reduceGT, Int.reduceGE, mu25, Nat.reduceBEq, ↓wrap_up, ↓wrap_down, ↓wrap_pred, ↓wrap_sub_nat, Int.reduceToNat]
          exact fin _ rfl hr
        · obtain ⟨⟨op, x, y, nn, set⟩, hi⟩ : ∃ i, g.ins[w.pc]? = some i := ⟨_, List.getElem?_eq_getElem hww.pc⟩
          have hpi : (progOf g t).ins w.pc = some ⟨op, x, y, nn, set⟩ := hi
          have hok1 := hok.ok _ (List.mem_of_getElem? hi)
          have hop := okIns_op hok1
          have hff := ok_facts hok1
          have hnx := hok.next hi
          have hset := hb.2 _ (List.mem_of_getElem? hi)
          have hstep := fun l => step_ok hok hww (l := l)
          have htop := get_top hls (wayA w) junk
          have htk := fun B => take_top hls B
          have hd1 := fun x B => drop_top hls x B
          have hd2 := fun x y B => drop_top2 hls x y B
          have htot : (stA wayA rest).length + (junk.length + 1) = rest.length + 1 + junk.length := by omega
          have hwp := hww.pc
          have hwa := hww.at_
          simp only at hop hff hnx hset
          cases fuel with
          | zero =>
            rw [runW_zero hm] at hr
            subst hr
            simp +contextual (disch := omega) only [Try.f25, dd25, go_sem, ↓reduceIte, List.reduceReplicate, Nat.reduceAdd, Nat.reduceSub, reduceCtorEq, Nat.reduceLeDiff, Nat.reduceMul, Nat.reduceLT, Nat.reduceEqDiff, Int.reduceBNe, Int.reduceBEq, Int.reduceEq, Int.reduceLT, Int.reduceLE, Int.reduceGT, Int.reduceGE, mu25, Nat.reduceBEq, ↓wrap_up, ↓wrap_down, ↓wrap_pred, ↓wrap_sub_nat, Int.reduceToNat]
            exact ⟨_, rfl⟩
          | succ fuel =>
            rw [runW_step hm] at hr
            rcases hop with rfl | rfl | rfl | rfl | rfl | rfl
            · have hs : stepW (progOf g t) w = .done := by simp [stepW, hpi]
              rw [hs] at hr
              have h63 := f63 w.pc w.at_ p0 w.regs n hww.regs (by omega)
              simp only [matAV] at h63
              have hto : List.take out.length (out.map fun w => mA (matOf p0 n w)) = (out.map fun w => mA (matOf p0 n w)) := take_map_len rfl
              simp +contextual (disch := omega) only [Try.f25, dd25, go_sem, ↓reduceIte, List.reduceReplicate, Nat.reduceAdd, Nat.reduceSub, reduceCtorEq, Nat.reduceLeDiff, Nat.reduceMul, Nat.reduceLT, Nat.reduceEqDiff, Int.reduceBNe, Int.reduceBEq, Int.reduceEq, Int.reduceLT, Int.reduceLE, Int.reduceGT, Int.reduceGE, mu25, Nat.reduceBEq, ↓wrap_up, ↓wrap_down, ↓wrap_pred, ↓wrap_sub_nat, Int.reduceToNat, hi, htop, h63, hto, Nat.add_sub_cancel, Nat.sub_zero, htot]
              repeat' (first | intro _ | apply And.intro | (unfold dOk; kernel_rfl) | exact St.beq_refl _ | (show altO _ _ _ _ = true; kernel_rfl) | (show (_ || _) = true; kernel_rfl) | (show (_ && _) = true; kernel_rfl))
              refine ⟨⟨rest, wayA w :: junk, out ++ [w], fuel⟩, ⟨hr, hrest, by simp; omega, by simp only []; omega, by simp [AV.plainL, AV.plain, plain_ints, hj]⟩, Nat.lt_succ_self _, ?_⟩
              exact (by first | rfl | (refine prep_to (n := 5) (m := ⟨some [16, 15, 5, 4, 3, 2, 1], some 5, []⟩) rfl rfl ?_ ?_ ?_ <;> first | rfl | (simp [keepT, AV.underL, AV.under, MB.under, underL_plain, under_plain, underL_append, plain_ints, plain_span, plain_ins, plain_prg, -List.map_take, -List.map_replicate, -List.map_set, T25, hj, hpl, plain_matOf2, matOf, matAV]; done) | (simp [keepT, AV.underL, AV.under, MB.under, underL_plain, under_plain, underL_append, plain_ints, plain_span, plain_ins, plain_prg, -List.map_take, -List.map_replicate, -List.map_set, T25, hj, hpl, plain_matOf2, matOf, matAV]; omega)))
            · -- one symbol
              cases htx : t[w.at_]? with
              | none =>
                have hle := List.getElem?_eq_none_iff.1 htx
                have hh : (progOf g t).has set w.at_ = false := by simp [progOf, htx]
                have hs : stepW (progOf g t) w = .ways [] := by simp [stepW, hpi, hh]
                rw [hs] at hr
                simp +contextual (disch := omega) only [Try.f25, dd25, go_sem, ↓reduceIte, List.reduceReplicate, Nat.reduceAdd, Nat.reduceSub, reduceCtorEq, Nat.reduceLeDiff, Nat.reduceMul, Nat.reduceLT, Nat.reduceEqDiff, Int.reduceBNe, Int.reduceBEq, Int.reduceEq, Int.reduceLT, Int.reduceLE, Int.reduceGT, Int.reduceGE, mu25, Nat.reduceBEq, ↓wrap_up, ↓wrap_down, ↓wrap_pred, ↓wrap_sub_nat, Int.reduceToNat, hi, htop, Nat.add_sub_cancel, Nat.sub_zero, htot]
                repeat' (first | intro _ | apply And.intro | (unfold dOk; kernel_rfl) | exact St.beq_refl _ | (show altO _ _ _ _ = true; kernel_rfl) | (show (_ || _) = true; kernel_rfl) | (show (_ && _) = true; kernel_rfl))
                refine ⟨⟨rest, wayA w :: junk, out, fuel⟩, ⟨hr, hrest, by simp only []; omega, by simp only []; omega, by simp [AV.plainL, AV.plain, plain_ints, hj]⟩, Nat.lt_succ_self _, ?_⟩
                exact (by first | rfl | (refine prep_to (n := 5) (m := ⟨some [16, 15, 5, 4, 3, 2, 1], some 5, []⟩) rfl rfl ?_ ?_ ?_ <;> first | rfl | (simp [keepT, AV.underL, AV.under, MB.under, underL_plain, under_plain, underL_append, plain_ints, plain_span, plain_ins, plain_prg, -List.map_take, -List.map_replicate, -List.map_set, T25, hj, hpl, plain_matOf2, matOf, matAV]; done) | (simp [keepT, AV.underL, AV.under, MB.under, underL_plain, under_plain, underL_append, plain_ints, plain_span, plain_ins, plain_prg, -List.map_take, -List.map_replicate, -List.map_set, T25, hj, hpl, plain_matOf2, matOf, matAV]; omega)))
              | some sy =>
                have hlt := (List.getElem?_eq_some_iff.1 htx).1
                have h64 := f64 set sy hset
                cases hhas : hasSpan set sy with
                | false =>
                  rw [hhas] at h64
                  have hh : (progOf g t).has set w.at_ = false := by simp [progOf, htx, hhas]
                  have hs : stepW (progOf g t) w = .ways [] := by simp [stepW, hpi, hh]
                  rw [hs] at hr
                  simp +contextual (disch := omega) only [Try.f25, dd25, go_sem, ↓reduceIte, List.reduceReplicate, Nat.reduceAdd, Nat.reduceSub, reduceCtorEq, Nat.reduceLeDiff, Nat.reduceMul, Nat.reduceLT, Nat.reduceEqDiff, Int.reduceBNe, Int.reduceBEq, Int.reduceEq, Int.reduceLT, Int.reduceLE, Int.reduceGT, Int.reduceGE, mu25, Nat.reduceBEq, ↓wrap_up, ↓wrap_down, ↓wrap_pred, ↓wrap_sub_nat, Int.reduceToNat, hi, htop, Nat.add_sub_cancel, Nat.sub_zero, htot, h64, htx]
                  repeat' (first | intro _ | apply And.intro | (unfold dOk; kernel_rfl) | exact St.beq_refl _ | (show altO _ _ _ _ = true; kernel_rfl) | (show (_ || _) = true; kernel_rfl) | (show (_ && _) = true; kernel_rfl))
                  refine ⟨⟨rest, wayA w :: junk, out, fuel⟩, ⟨hr, hrest, by simp only []; omega, by simp only []; omega, by simp [AV.plainL, AV.plain, plain_ints, hj]⟩, Nat.lt_succ_self _, ?_⟩
                  exact (by first | rfl | (refine prep_to (n := 5) (m := ⟨some [16, 15, 5, 4, 3, 2, 1], some 5, []⟩) rfl rfl ?_ ?_ ?_ <;> first | rfl | (simp [keepT, AV.underL, AV.under, MB.under, underL_plain, under_plain, underL_append, plain_ints, plain_span, plain_ins, plain_prg, -List.map_take, -List.map_replicate, -List.map_set, T25, hj, hpl, plain_matOf2, matOf, matAV]; done) | (simp [keepT, AV.underL, AV.under, MB.under, underL_plain, under_plain, underL_append, plain_ints, plain_span, plain_ins, plain_prg, -List.map_take, -List.map_replicate, -List.map_set, T25, hj, hpl, plain_matOf2, matOf, matAV]; omega)))
                | true =>
                  rw [hhas] at h64
                  have hh : (progOf g t).has set w.at_ = true := by simp [progOf, htx, hhas]
                  have hs : stepW (progOf g t) w = .ways [⟨w.pc + 1, w.at_ + 1, w.regs⟩] := by simp [stepW, hpi, hh]
                  have hst := hstep _ hs
                  rw [hs] at hr
                  simp +contextual (disch := omega) only [Try.f25, dd25, go_sem, ↓reduceIte, List.reduceReplicate, Nat.reduceAdd, Nat.reduceSub, reduceCtorEq, Nat.reduceLeDiff, Nat.reduceMul, Nat.reduceLT, Nat.reduceEqDiff, Int.reduceBNe, Int.reduceBEq, Int.reduceEq, Int.reduceLT, Int.reduceLE, Int.reduceGT, Int.reduceGE, mu25, Nat.reduceBEq, ↓wrap_up, ↓wrap_down, ↓wrap_pred, ↓wrap_sub_nat, Int.reduceToNat, hi, htop, Nat.add_sub_cancel, Nat.sub_zero, htot, h64, htx, htk, hd1]
                  repeat' (first | intro _ | apply And.intro | (unfold dOk; kernel_rfl) | exact St.beq_refl _ | (show altO _ _ _ _ = true; kernel_rfl) | (show (_ || _) = true; kernel_rfl) | (show (_ && _) = true; kernel_rfl))
                  refine ⟨⟨⟨w.pc + 1, w.at_ + 1, w.regs⟩ :: rest, junk, out, fuel⟩, ⟨hr, fun v hv => ?_, by simp only []; omega, by simp; omega, hj⟩, Nat.lt_succ_self _, ?_⟩
                  · rcases List.mem_cons.1 hv with e | e
                    · rw [e]; exact hst _ (List.mem_cons_self ..)
                    · exact hrest v e
                  · exact (by first | rfl | (refine prep_to (n := 5) (m := ⟨some [16, 15, 5, 4, 3, 2, 1], some 5, []⟩) rfl rfl ?_ ?_ ?_ <;> first | rfl | (simp [keepT, AV.underL, AV.under, MB.under, underL_plain, under_plain, underL_append, plain_ints, plain_span, plain_ins, plain_prg, -List.map_take, -List.map_replicate, -List.map_set, T25, hj, hpl, plain_matOf2, matOf, matAV, stA_one]; done) | (simp [keepT, AV.underL, AV.under, MB.under, underL_plain, under_plain, underL_append, plain_ints, plain_span, plain_ins, plain_prg, -List.map_take, -List.map_replicate, -List.map_set, T25, hj, hpl, plain_matOf2, matOf, matAV, stA_one]; omega)))
            · -- two ways
              have hs : stepW (progOf g t) w = .ways [⟨x.toNat, w.at_, w.regs⟩, ⟨y.toNat, w.at_, w.regs⟩] := by simp [stepW, hpi]
              have hst := hstep _ hs
              have hxy := hff.1 rfl
              obtain ⟨x', rfl⟩ : ∃ x' : Nat, x = x' := ⟨x.toNat, by omega⟩
              obtain ⟨y', rfl⟩ : ∃ y' : Nat, y = y' := ⟨y.toNat, by omega⟩
              simp only [Int.toNat_natCast] at hs hst hr
              rw [hs] at hr
              cases junk with
              | nil =>
                have htot0 : (stA wayA rest).length + 1 = rest.length + 1 := by omega
                simp +contextual (disch := omega) only [Try.f25, dd25, go_sem, ↓reduceIte, List.reduceReplicate, Nat.reduceAdd, Nat.reduceSub, reduceCtorEq, Nat.reduceLeDiff, Nat.reduceMul, Nat.reduceLT, Nat.reduceEqDiff, Int.reduceBNe, Int.reduceBEq, Int.reduceEq, Int.reduceLT, Int.reduceLE, Int.reduceGT, Int.reduceGE, mu25, Nat.reduceBEq, ↓wrap_up, ↓wrap_down, ↓wrap_pred, ↓wrap_sub_nat, Int.reduceToNat, hi, htop, Nat.add_sub_cancel, Nat.sub_zero, htot0, htk, hd1, hd2]
                repeat' (first | intro _ | apply And.intro | (unfold dOk; kernel_rfl) | exact St.beq_refl _ | (show altO _ _ _ _ = true; kernel_rfl) | (show (_ || _) = true; kernel_rfl) | (show (_ && _) = true; kernel_rfl))
                refine ⟨⟨⟨x', w.at_, w.regs⟩ :: ⟨y', w.at_, w.regs⟩ :: rest, [], out, fuel⟩, ⟨hr, fun v hv => ?_, by simp only []; omega, by simp; omega, rfl⟩, Nat.lt_succ_self _, ?_⟩
                · rcases List.mem_cons.1 hv with e | hv
                  · rw [e]; exact hst _ (List.mem_cons_self ..)
                  · rcases List.mem_cons.1 hv with e | e
                    · rw [e]; exact hst _ (by simp)
                    · exact hrest v e
                · exact (by first | rfl | (refine prep_to (n := 5) (m := ⟨some [16, 15, 5, 4, 3, 2, 1], some 5, []⟩) rfl rfl ?_ ?_ ?_ <;> first | rfl | (simp [keepT, AV.underL, AV.under, MB.under, underL_plain, under_plain, underL_append, plain_ints, plain_span, plain_ins, plain_prg, -List.map_take, -List.map_replicate, -List.map_set, T25, hj, hpl, plain_matOf2, matOf, matAV, stA_one]; done) | (simp [keepT, AV.underL, AV.under, MB.under, underL_plain, under_plain, underL_append, plain_ints, plain_span, plain_ins, plain_prg, -List.map_take, -List.map_replicate, -List.map_set, T25, hj, hpl, plain_matOf2, matOf, matAV, stA_one]; omega)))
              | cons j0 junk =>
                simp only [AV.plainL, Bool.and_eq_true] at hj
                have hj := hj.2
                have htot2 : (stA wayA rest).length + (junk.length + 1 + 1) = rest.length + 1 + (junk.length + 1) := by omega
                simp only [List.length_cons]
                simp +contextual (disch := omega) only [Try.f25, dd25, go_sem, ↓reduceIte, List.reduceReplicate, Nat.reduceAdd, Nat.reduceSub, reduceCtorEq, Nat.reduceLeDiff, Nat.reduceMul, Nat.reduceLT, Nat.reduceEqDiff, Int.reduceBNe, Int.reduceBEq, Int.reduceEq, Int.reduceLT, Int.reduceLE, Int.reduceGT, Int.reduceGE, mu25, Nat.reduceBEq, ↓wrap_up, ↓wrap_down, ↓wrap_pred, ↓wrap_sub_nat, Int.reduceToNat, hi, htop, Nat.add_sub_cancel, Nat.sub_zero, htot2, htk, hd1, hd2]
                repeat' (first | intro _ | apply And.intro | (unfold dOk; kernel_rfl) | exact St.beq_refl _ | (show altO _ _ _ _ = true; kernel_rfl) | (show (_ || _) = true; kernel_rfl) | (show (_ && _) = true; kernel_rfl))
                refine ⟨⟨⟨x', w.at_, w.regs⟩ :: ⟨y', w.at_, w.regs⟩ :: rest, junk, out, fuel⟩, ⟨hr, fun v hv => ?_, by simp only []; omega, by simp; omega, hj⟩, Nat.lt_succ_self _, ?_⟩
                · rcases List.mem_cons.1 hv with e | hv
                  · rw [e]; exact hst _ (List.mem_cons_self ..)
                  · rcases List.mem_cons.1 hv with e | e
                    · rw [e]; exact hst _ (by simp)
                    · exact hrest v e
                · exact (by first | rfl | (refine prep_to (n := 5) (m := ⟨some [16, 15, 5, 4, 3, 2, 1], some 5, []⟩) rfl rfl ?_ ?_ ?_ <;> first | rfl | (simp [keepT, AV.underL, AV.under, MB.under, underL_plain, under_plain, underL_append, plain_ints, plain_span, plain_ins, plain_prg, -List.map_take, -List.map_replicate, -List.map_set, T25, hj, hpl, plain_matOf2, matOf, matAV, stA_one]; done) | (simp [keepT, AV.underL, AV.under, MB.under, underL_plain, under_plain, underL_append, plain_ints, plain_span, plain_ins, plain_prg, -List.map_take, -List.map_replicate, -List.map_set, T25, hj, hpl, plain_matOf2, matOf, matAV, stA_one]; omega)))
            · -- a jump
              have hs : stepW (progOf g t) w = .ways [⟨x.toNat, w.at_, w.regs⟩] := by simp [stepW, hpi]
              have hst := hstep _ hs
              have hxy := hff.2.1 rfl
              obtain ⟨x', rfl⟩ : ∃ x' : Nat, x = x' := ⟨x.toNat, by omega⟩
              simp only [Int.toNat_natCast] at hs hst hr
              rw [hs] at hr
              simp +contextual (disch := omega) only [Try.f25, dd25, go_sem, ↓reduceIte, List.reduceReplicate, Nat.reduceAdd, Nat.reduceSub, reduceCtorEq, Nat.reduceLeDiff, Nat.reduceMul, Nat.reduceLT, Nat.reduceEqDiff, Int.reduceBNe, Int.reduceBEq, Int.reduceEq, Int.reduceLT, Int.reduceLE, Int.reduceGT, Int.reduceGE, mu25, Nat.reduceBEq, ↓wrap_up, ↓wrap_down, ↓wrap_pred, ↓wrap_sub_nat, Int.reduceToNat, hi, htop, Nat.add_sub_cancel, Nat.sub_zero, htot, htk, hd1]
              repeat' (first | intro _ | apply And.intro | (unfold dOk; kernel_rfl) | exact St.beq_refl _ | (show altO _ _ _ _ = true; kernel_rfl) | (show (_ || _) = true; kernel_rfl) | (show (_ && _) = true; kernel_rfl))
              refine ⟨⟨⟨x', w.at_, w.regs⟩ :: rest, junk, out, fuel⟩, ⟨hr, fun v hv => ?_, by simp only []; omega, by simp; omega, hj⟩, Nat.lt_succ_self _, ?_⟩
              · rcases List.mem_cons.1 hv with e | e
                · rw [e]; exact hst _ (List.mem_cons_self ..)
                · exact hrest v e
              · exact (by first | rfl | (refine prep_to (n := 5) (m := ⟨some [16, 15, 5, 4, 3, 2, 1], some 5, []⟩) rfl rfl ?_ ?_ ?_ <;> first | rfl | (simp [keepT, AV.underL, AV.under, MB.under, underL_plain, under_plain, underL_append, plain_ints, plain_span, plain_ins, plain_prg, -List.map_take, -List.map_replicate, -List.map_set, T25, hj, hpl, plain_matOf2, matOf, matAV, stA_one]; done) | (simp [keepT, AV.underL, AV.under, MB.under, underL_plain, under_plain, underL_append, plain_ints, plain_span, plain_ins, plain_prg, -List.map_take, -List.map_replicate, -List.map_set, T25, hj, hpl, plain_matOf2, matOf, matAV, stA_one]; omega)))
            · -- a register
              have hs : stepW (progOf g t) w = .ways [⟨w.pc + 1, w.at_, w.regs.set nn.toNat w.at_⟩] := by simp [stepW, hpi]
              have hst := hstep _ hs
              have hxy := hff.2.2 rfl
              obtain ⟨n', rfl⟩ : ∃ n' : Nat, nn = n' := ⟨nn.toNat, by omega⟩
              simp only [Int.toNat_natCast] at hs hst hr
              rw [hs] at hr
              have h65 := f65 w.regs n' w.at_ (by rw [hww.regs]; omega) (by rw [hww.regs]; omega)
              simp +contextual (disch := omega) only [Try.f25, dd25, go_sem, ↓reduceIte, List.reduceReplicate, Nat.reduceAdd, Nat.reduceSub, reduceCtorEq, Nat.reduceLeDiff, Nat.reduceMul, Nat.reduceLT, Nat.reduceEqDiff, Int.reduceBNe, Int.reduceBEq, Int.reduceEq, Int.reduceLT, Int.reduceLE, Int.reduceGT, Int.reduceGE, mu25, Nat.reduceBEq, ↓wrap_up, ↓wrap_down, ↓wrap_pred, ↓wrap_sub_nat, Int.reduceToNat, hi, htop, Nat.add_sub_cancel, Nat.sub_zero, htot, htk, hd1, h65]
              repeat' (first | intro _ | apply And.intro | (unfold dOk; kernel_rfl) | exact St.beq_refl _ | (show altO _ _ _ _ = true; kernel_rfl) | (show (_ || _) = true; kernel_rfl) | (show (_ && _) = true; kernel_rfl))
              refine ⟨⟨⟨w.pc + 1, w.at_, w.regs.set n' w.at_⟩ :: rest, junk, out, fuel⟩, ⟨hr, fun v hv => ?_, by simp only []; omega, by simp; omega, hj⟩, Nat.lt_succ_self _, ?_⟩
              · rcases List.mem_cons.1 hv with e | e
                · rw [e]; exact hst _ (List.mem_cons_self ..)
                · exact hrest v e
              · exact (by first | rfl | (refine prep_to (n := 5) (m := ⟨some [16, 15, 5, 4, 3, 2, 1], some 5, []⟩) rfl rfl ?_ ?_ ?_ <;> first | rfl | (simp [keepT, AV.underL, AV.under, MB.under, underL_plain, under_plain, underL_append, plain_ints, plain_span, plain_ins, plain_prg, -List.map_take, -List.map_replicate, -List.map_set, T25, hj, hpl, plain_matOf2, matOf, matAV, stA_one]; done) | (simp [keepT, AV.underL, AV.under, MB.under, underL_plain, under_plain, underL_append, plain_ints, plain_span, plain_ins, plain_prg, -List.map_take, -List.map_replicate, -List.map_set, T25, hj, hpl, plain_matOf2, matOf, matAV, stA_one]; omega)))
            · -- an assertion
              have h66 := f66 nn t w.at_ hww.at_ (by omega)
              cases hh2 : assertI nn (befS t w.at_) t[w.at_]? with
              | false =>
                rw [hh2] at h66
                have hh : (progOf g t).holds nn w.at_ = false := hh2
                have hs : stepW (progOf g t) w = .ways [] := by simp [stepW, hpi, hh]
                rw [hs] at hr
                simp +contextual (disch := omega) only [Try.f25, dd25, go_sem, ↓reduceIte, List.reduceReplicate, Nat.reduceAdd, Nat.reduceSub, reduceCtorEq, Nat.reduceLeDiff, Nat.reduceMul, Nat.reduceLT, Nat.reduceEqDiff, Int.reduceBNe, Int.reduceBEq, Int.reduceEq, Int.reduceLT, Int.reduceLE, Int.reduceGT, Int.reduceGE, mu25, Nat.reduceBEq, ↓wrap_up, ↓wrap_down, ↓wrap_pred, ↓wrap_sub_nat, Int.reduceToNat, hi, htop, Nat.add_sub_cancel, Nat.sub_zero, htot, h66]
                repeat' (first | intro _ | apply And.intro | (unfold dOk; kernel_rfl) | exact St.beq_refl _ | (show altO _ _ _ _ = true; kernel_rfl) | (show (_ || _) = true; kernel_rfl) | (show (_ && _) = true; kernel_rfl))
                refine ⟨⟨rest, wayA w :: junk, out, fuel⟩, ⟨hr, hrest, by simp only []; omega, by simp only []; omega, by simp [AV.plainL, AV.plain, plain_ints, hj]⟩, Nat.lt_succ_self _, ?_⟩
                exact (by first | rfl | (refine prep_to (n := 5) (m := ⟨some [16, 15, 5, 4, 3, 2, 1], some 5, []⟩) rfl rfl ?_ ?_ ?_ <;> first | rfl | (simp [keepT, AV.underL, AV.under, MB.under, underL_plain, under_plain, underL_append, plain_ints, plain_span, plain_ins, plain_prg, -List.map_take, -List.map_replicate, -List.map_set, T25, hj, hpl, plain_matOf2, matOf, matAV, stA_one]; done) | (simp [keepT, AV.underL, AV.under, MB.under, underL_plain, under_plain, underL_append, plain_ints, plain_span, plain_ins, plain_prg, -List.map_take, -List.map_replicate, -List.map_set, T25, hj, hpl, plain_matOf2, matOf, matAV, stA_one]; omega)))
              | true =>
                rw [hh2] at h66
                have hh : (progOf g t).holds nn w.at_ = true := hh2
                have hs : stepW (progOf g t) w = .ways [⟨w.pc + 1, w.at_, w.regs⟩] := by simp [stepW, hpi, hh]
                have hst := hstep _ hs
                rw [hs] at hr
                simp +contextual (disch := omega) only [Try.f25, dd25, go_sem, ↓reduceIte, List.reduceReplicate, Nat.reduceAdd, Nat.reduceSub, reduceCtorEq, Nat.reduceLeDiff, Nat.reduceMul, Nat.reduceLT, Nat.reduceEqDiff, Int.reduceBNe, Int.reduceBEq, Int.reduceEq, Int.reduceLT, Int.reduceLE, Int.reduceGT, Int.reduceGE, mu25, Nat.reduceBEq, ↓wrap_up, ↓wrap_down, ↓wrap_pred, ↓wrap_sub_nat, Int.reduceToNat, hi, htop, Nat.add_sub_cancel, Nat.sub_zero, htot, htk, hd1, h66]
                repeat' (first | intro _ | apply And.intro | (unfold dOk; kernel_rfl) | exact St.beq_refl _ | (show altO _ _ _ _ = true; kernel_rfl) | (show (_ || _) = true; kernel_rfl) | (show (_ && _) = true; kernel_rfl))
                refine ⟨⟨⟨w.pc + 1, w.at_, w.regs⟩ :: rest, junk, out, fuel⟩, ⟨hr, fun v hv => ?_, by simp only []; omega, by simp; omega, hj⟩, Nat.lt_succ_self _, ?_⟩
                · rcases List.mem_cons.1 hv with e | e
                  · rw [e]; exact hst _ (List.mem_cons_self ..)
                  · exact hrest v e
                · exact (by first | rfl | (refine prep_to (n := 5) (m := ⟨some [16, 15, 5, 4, 3, 2, 1], some 5, []⟩) rfl rfl ?_ ?_ ?_ <;> first | rfl | (simp [keepT, AV.underL, AV.under, MB.under, underL_plain, under_plain, underL_append, plain_ints, plain_span, plain_ins, plain_prg, -List.map_take, -List.map_replicate, -List.map_set, T25, hj, hpl, plain_matOf2, matOf, matAV, stA_one]; done) | (simp [keepT, AV.underL, AV.under, MB.under, underL_plain, under_plain, underL_append, plain_ints, plain_span, plain_ins, plain_prg, -List.map_take, -List.map_replicate, -List.map_set, T25, hj, hpl, plain_matOf2, matOf, matAV, stA_one]; omega)))
    · intro w hw
      rw [List.mem_singleton.1 hw]
      exact ⟨by show 0 < _; omega, by show p0 ≤ _; omega, hlen⟩
    · simp; omega
    · simp; omega
    · exact (by first | rfl | (refine prep_to (n := 5) (m := ⟨some [16, 15, 5, 4, 3, 2, 1], some 5, []⟩) rfl rfl ?_ ?_ ?_ <;> first | rfl | (simp [keepT, AV.underL, AV.under, MB.under, underL_plain, under_plain, underL_append, plain_ints, plain_span, plain_ins, plain_prg, -List.map_take, -List.map_replicate, -List.map_set, T25, stA]; done) | (simp [keepT, AV.underL, AV.under, MB.under, underL_plain, under_plain, underL_append, plain_ints, plain_span, plain_ins, plain_prg, -List.map_take, -List.map_replicate, -List.map_set, T25, stA]; omega)))
end
section
attribute [local go_sem] ty33 ty35 ty119 ty122 ty123
open Go.Proofs Go.RowKit Go.IntWalk
set_option maxRecDepth 100000
set_option linter.unusedSimpArgs false
set_option linter.unusedVariables false
set_option maxHeartbeats 4000000

theorem keptOk_refl (n : Nat) : ∀ (H : List MB), keptOk n H H = true
  | [] => rfl
  | x :: H => by simp [keptOk, MB.beq_refl, keptOk_refl n H]
theorem keptOk_set (n : Nat) (b : MB) (hb : MB.under n b = true) : ∀ (H : List MB) (id : Nat), keptOk n H (H.set id b) = true
  | [], id => by simp [keptOk]
  | x :: H, 0 => by
    have h2 := keptOk_refl n H
    simp [keptOk, hb, h2]
  | x :: H, id + 1 => by
    simp [keptOk, MB.beq_refl, keptOk_set n b hb H id]
theorem take_set_all {H : List MB} {id : Nat} {b : MB} : (H.set id b).take H.length = H.set id b := List.take_of_length_le (by simp)

theorem f59 (g : Prg) (hg : g.ins.length ≤ 1000000) (pc pos found most : Int) (idle fnd : Nat) (hi : idle ≤ 1000000) (regs : List Int) (H : List MB) (id : Nat) (hrow : getRow H id = some (5, [wayAV pc pos idle fnd regs], 0)) :
    call Try.prog pol1 59 [prgPt g, .rf id 1 0 0, I found, I most] H =
      if g.ins.length ≤ idle ∧ (most = -1 ∨ (fnd : Int) = found) then some (.bool true, H.set id (.row 5 [wayAV pc pos ((idle + 1 : Nat) : Int) fnd regs] 0))
      else if g.ins.length ≤ idle then some (.bool false, H.set id (.row 5 [wayAV pc pos 1 found regs] 0))
      else some (.bool false, H.set id (.row 5 [wayAV pc pos ((idle + 1 : Nat) : Int) fnd regs] 0)) := by
  have hid : id < H.length := (List.getElem?_eq_some_iff.1 (getRow_eq hrow)).1
  have hk : ∀ (a b : Int) (x : Bool), retPol pol1 59 H (.bool x) (H.set id (.row 5 [wayAV pc pos a b regs] 0)) = some (.bool x, H.set id (.row 5 [wayAV pc pos a b regs] 0)) := fun a b x =>
    retPol_keep rfl rfl rfl (keptOk_set _ _ (by simp [MB.under, AV.underL, AV.under, underL_plain, plain_ints]) H id) take_set_all
  have gs : ∀ b : MB, (H.set id b)[id]? = some b := fun b => List.getElem?_set_self hid
  have hH := getRow_eq hrow
  have hi1 : ((idle : Int) + 1) = ((idle + 1 : Nat) : Int) := rfl
  by_cases h1 : g.ins.length ≤ idle
  · by_cases h2 : most = -1
    · rw [if_pos ⟨h1, .inl h2⟩]
      subst h2
      refine call_run2 (pol := pol1) (H1 := H) Try.func59 rfl rfl rfl rfl rfl ?_
      simp +contextual (disch := omega) only [Try.f59, dd59, go_sem, ↓reduceIte, List.reduceReplicate, Nat.reduceAdd, Nat.reduceSub, reduceCtorEq, Nat.reduceLeDiff, Nat.reduceMul, Nat.reduceLT, Nat.reduceEqDiff, Int.reduceBNe, Int.reduceBEq, Int.reduceEq, Int.reduceLT, Int.reduceLE, Int.reduceGT, Int.reduceGE, mu59, Nat.reduceBEq, ↓wrap_up, ↓wrap_down, ↓wrap_pred, ↓wrap_sub_nat, Int.reduceToNat, hH, gs, List.set_set, hk, hi1]
      repeat' (first | intro _ | apply And.intro | (unfold dOk; kernel_rfl) | exact St.beq_refl _ | (show altO _ _ _ _ = true; kernel_rfl) | (show (_ || _) = true; kernel_rfl) | (show (_ && _) = true; kernel_rfl))
      all_goals omega
    · by_cases h3 : (fnd : Int) = found
      · rw [if_pos ⟨h1, .inr h3⟩]
        subst h3
        refine call_run2 (pol := pol1) (H1 := H) Try.func59 rfl rfl rfl rfl rfl ?_
        simp +contextual (disch := omega) only [Try.f59, dd59, go_sem, ↓reduceIte, List.reduceReplicate, Nat.reduceAdd, Nat.reduceSub, reduceCtorEq, Nat.reduceLeDiff, Nat.reduceMul, Nat.reduceLT, Nat.reduceEqDiff, Int.reduceBNe, Int.reduceBEq, Int.reduceEq, Int.reduceLT, Int.reduceLE, Int.reduceGT, Int.reduceGE, mu59, Nat.reduceBEq, ↓wrap_up, ↓wrap_down, ↓wrap_pred, ↓wrap_sub_nat, Int.reduceToNat, hH, gs, List.set_set, hk, hi1]
        repeat' (first | intro _ | apply And.intro | (unfold dOk; kernel_rfl) | exact St.beq_refl _ | (show altO _ _ _ _ = true; kernel_rfl) | (show (_ || _) = true; kernel_rfl) | (show (_ && _) = true; kernel_rfl))
        all_goals omega
      · rw [if_neg (by simp [h2, h3]), if_pos h1]
        refine call_run2 (pol := pol1) (H1 := H) Try.func59 rfl rfl rfl rfl rfl ?_
        simp +contextual (disch := omega) only [Try.f59, dd59, go_sem, ↓reduceIte, List.reduceReplicate, Nat.reduceAdd, Nat.reduceSub, reduceCtorEq, Nat.reduceLeDiff, Nat.reduceMul, Nat.reduceLT, Nat.reduceEqDiff, Int.reduceBNe, Int.reduceBEq, Int.reduceEq, Int.reduceLT, Int.reduceLE, Int.reduceGT, Int.reduceGE, mu59, Nat.reduceBEq, ↓wrap_up, ↓wrap_down, ↓wrap_pred, ↓wrap_sub_nat, Int.reduceToNat, hH, gs, List.set_set, hk, hi1]
        repeat' (first | intro _ | apply And.intro | (unfold dOk; kernel_rfl) | exact St.beq_refl _ | (show altO _ _ _ _ = true; kernel_rfl) | (show (_ || _) = true; kernel_rfl) | (show (_ && _) = true; kernel_rfl))
        all_goals omega
  · rw [if_neg (by simp [h1]), if_neg h1]
    refine call_run2 (pol := pol1) (H1 := H) Try.func59 rfl rfl rfl rfl rfl ?_
    simp +contextual (disch := omega) only [Try.f59, dd59, go_sem, ↓reduceIte, List.reduceReplicate, Nat.reduceAdd, Nat.reduceSub, reduceCtorEq, Nat.reduceLeDiff, Nat.reduceMul, Nat.reduceLT, Nat.reduceEqDiff, Int.reduceBNe, Int.reduceBEq, Int.reduceEq, Int.reduceLT, Int.reduceLE, Int.reduceGT, Int.reduceGE, mu59, Nat.reduceBEq, ↓wrap_up, ↓wrap_down, ↓wrap_pred, ↓wrap_sub_nat, Int.reduceToNat, hH, gs, List.set_set, hk, hi1]
    repeat' (first | intro _ | apply And.intro | (unfold dOk; kernel_rfl) | exact St.beq_refl _ | (show altO _ _ _ _ = true; kernel_rfl) | (show (_ || _) = true; kernel_rfl) | (show (_ && _) = true; kernel_rfl))
    all_goals omega
end
section
attribute [local go_sem] ty22 ty23 ty33 ty35 ty36 ty53 ty104 ty112 ty115 ty117 ty119 ty120 ty124
open Go.Proofs Go.RowKit Go.IntWalk
set_option maxRecDepth 100000
set_option linter.unusedSimpArgs false
set_option linter.unusedVariables false
set_option maxHeartbeats 8000000

/-- A call over an empty heap takes what its arguments come to when they are never changed. -/
theorem call_frz {P : Program} {pol : Pol} {f : Nat} {args l : List AV} {H H1 : List MB} (hp : pol.pure f = true) (h : frzArgs pol f 0 args H = some (l, H1)) (ha : AV.plainL l = true) :
    call P pol f args H = call P pol f l H1 := by
  have hf : ∀ (l : List AV) (i : Nat), AV.plainL l = true → frzArgs pol f i l H1 = some (l, H1) := by
    intro l
    induction l with
    | nil => intro i _; rfl
    | cons x l ih =>
      intro i h
      simp only [AV.plainL, Bool.and_eq_true] at h
      simp only [frzArgs, fz_plain H1 h.1, ih (i + 1) h.2]
      split <;> simp_all
  rw [call_eq, call_eq]
  unfold evStep
  simp only [hp, if_true, h, hf l 0 ha]

abbrev wayIA (e : WayI) : AV := wayAV e.w.pc e.w.at_ e.idle e.found e.w.regs
theorem plain_wayIs (l : List WayI) : AV.plainL (stA wayIA l) = true := by
  rw [plainL_iff]
  intro x hx
  obtain ⟨w, _, rfl⟩ := List.mem_map.1 hx
  simp [AV.plain, AV.plainL, plain_ints]

structure S23 where
  todo : List WayI
  junk : List AV
  out : List Way
  fuel : Nat
def m1s : List Int := List.replicate 18 (-1)
def T23 (g : Prg) (t : List Int) (pos : Int) (most : Int) (n : Nat) (s : S23) : St :=
  (⟨172, [(16, .ms 3 5 (s.todo.length + s.junk.length) 0 s.todo.length), (15, .ms 2 3 s.out.length 0 s.out.length), (5, prgPt g), (4, I s.fuel), (3, I most), (2, I pos), (1, .sl false (t.map I))], [.row 3 [prgAV g] 1,
    .row 18 [.agg (m1s.map I)] 1, .row 3 (s.out.map fun w => mA (matOf pos n w)) 0, .row 5 (stA wayIA s.todo ++ s.junk) 0]⟩ : St)
structure S23i where
  e : WayI
  todo : List WayI
  junk : List AV
  out : List Way
  fuel : Nat
def T23i (g : Prg) (t : List Int) (pos : Int) (most : Int) (n : Nat) (s : S23i) : St :=
  (⟨172, [(17, .rf 4 1 0 0), (16, .ms 3 5 (s.todo.length + s.junk.length) 0 s.todo.length), (15, .ms 2 3 s.out.length 0 s.out.length), (5, prgPt g), (4, I s.fuel), (3, I most), (2, I pos), (1, .sl false (t.map I))], [.row 3 [prgAV g] 1,
    .row 18 [.agg (m1s.map I)] 1, .row 3 (s.out.map fun w => mA (matOf pos n w)) 0, .row 5 (stA wayIA s.todo ++ s.junk) 0, .row 5 [wayIA s.e] 0]⟩ : St)

theorem runI_nil {p : Prog1} {n : Nat} {most : Int} {fuel : Nat} {out : List Way} : runI p n most fuel [] out = some out := by unfold runI; rfl
theorem runI_full {p : Prog1} {n : Nat} {most : Int} {fuel : Nat} {w : WayI} {rest : List WayI} {out : List Way} (h : (out.length : Int) = most) : runI p n most fuel (w :: rest) out = some out := by
  unfold runI
  simp only [h, if_true]
theorem runI_zero {p : Prog1} {n : Nat} {most : Int} {w : WayI} {rest : List WayI} {out : List Way} (h : ¬ (out.length : Int) = most) : runI p n most 0 (w :: rest) out = none := by
  unfold runI
  simp only [h, if_false]
theorem runI_circ {p : Prog1} {n : Nat} {most : Int} {fuel : Nat} {w : WayI} {rest : List WayI} {out : List Way} (h : ¬ (out.length : Int) = most) (hc : n ≤ w.idle ∧ (most = -1 ∨ w.found = out.length)) : runI p n most (fuel + 1) (w :: rest) out = none := by
  unfold runI
  simp only [h, hc, and_self, if_true, if_false]
theorem runI_step {p : Prog1} {n : Nat} {most : Int} {fuel : Nat} {w : WayI} {rest : List WayI} {out : List Way} (h : ¬ (out.length : Int) = most) (hc : ¬ (n ≤ w.idle ∧ (most = -1 ∨ w.found = out.length))) :
    runI p n most (fuel + 1) (w :: rest) out = match nextI p w (if n ≤ w.idle then 1 else w.idle + 1) (if n ≤ w.idle then out.length else w.found) out.length (stepW p w.w) with
      | none => runI p n most fuel rest (out ++ [w.w])
      | some l => runI p n most fuel (l ++ rest) out := by
  conv => lhs; unfold runI
  simp only [h, hc, if_false]
  rfl
/-- What the test for circles comes to, and how the walk goes on. -/
theorem circ_step (g : Prg) (p : Prog1) (hg : 1 ≤ g.ins.length ∧ g.ins.length ≤ 8192) (most : Int) (fuel : Nat) (e : WayI) (hi : e.idle ≤ g.ins.length) (rest : List WayI) (out : List Way) (hf : e.found ≤ out.length) (ho : ¬ (out.length : Int) = most) (hc : ¬ (g.ins.length ≤ e.idle ∧ (most = -1 ∨ e.found = out.length))) :
    ∃ i' d' : Nat, i' ≤ g.ins.length ∧ d' ≤ out.length ∧
      (∀ b0 b1 b2 b3 : MB, call Try.prog pol1 59 [prgPt g, .rf 4 1 0 0, I out.length, I most] [b0, b1, b2, b3, .row 5 [wayIA e] 0] = some (.bool false, [b0, b1, b2, b3, .row 5 [wayAV e.w.pc e.w.at_ i' d' e.w.regs] 0])) ∧
      runI p g.ins.length most (fuel + 1) (e :: rest) out = match nextI p e i' d' out.length (stepW p e.w) with
        | none => runI p g.ins.length most fuel rest (out ++ [e.w])
        | some l => runI p g.ins.length most fuel (l ++ rest) out := by
  have hcast : ((e.found : Int) = (out.length : Int)) ↔ e.found = out.length := by omega
  have h59 := fun b0 b1 b2 b3 => f59 g (by omega) e.w.pc e.w.at_ out.length most e.idle e.found (by omega) e.w.regs [b0, b1, b2, b3, .row 5 [wayIA e] 0] 4 rfl
  simp only [hcast, hc, if_false] at h59
  have hs := runI_step (fuel := fuel) (rest := rest) (p := p) ho hc
  by_cases h1 : g.ins.length ≤ e.idle
  · simp only [h1, if_true] at h59 hs
    exact ⟨1, out.length, hg.1, Nat.le_refl _, h59, hs⟩
  · simp only [h1, if_false] at h59 hs
    exact ⟨e.idle + 1, e.found, by omega, hf, h59, hs⟩
theorem circ_true (g : Prg) (hg : 1 ≤ g.ins.length ∧ g.ins.length ≤ 8192) (most : Int) (e : WayI) (hi : e.idle ≤ g.ins.length) (out : List Way) (hc : g.ins.length ≤ e.idle ∧ (most = -1 ∨ e.found = out.length)) (b0 b1 b2 b3 : MB) :
    call Try.prog pol1 59 [prgPt g, .rf 4 1 0 0, I out.length, I most] [b0, b1, b2, b3, .row 5 [wayIA e] 0] = some (.bool true, [b0, b1, b2, b3, .row 5 [wayAV e.w.pc e.w.at_ ((e.idle + 1 : Nat) : Int) e.found e.w.regs] 0]) := by
  have h59 := f59 g (by omega) e.w.pc e.w.at_ out.length most e.idle e.found (by omega) e.w.regs [b0, b1, b2, b3, .row 5 [wayIA e] 0] 4 rfl
  rw [h59, if_pos ⟨hc.1, hc.2.imp id (fun h => by omega)⟩]
  rfl
/-- A match, made of the way on top. -/
theorem top_match (g : Prg) (pc pos idle found start : Int) (regs : List Int) (n : Nat) (hc : g.caps = n) (hr : regs.length = 18) (hn : n ≤ 9) (b0 b1 b2 b3 : MB) :
    call Try.prog pol1 60 [prgPt g, .rf 4 1 0 0, I start] [b0, b1, b2, b3, .row 5 [wayAV pc pos idle found regs] 0] = some (matAV start pos (capsN regs n), [b0, b1, b2, b3, .row 5 [wayAV pc pos idle found regs] 1]) := by
  rw [call_frz (l := [prgPt g, .pt [I pc, I pos, I idle, I found, .pt (regs.map I)], I start]) (H1 := [b0, b1, b2, b3, .row 5 [wayAV pc pos idle found regs] 1]) rfl ?_ (by simp [AV.plain, AV.plainL, plain_ints, plain_ins])]
  · exact f60 g pc pos idle found start regs n hc hr hn _
  · have h1 : fz (prgPt g) [b0, b1, b2, b3, .row 5 [wayAV pc pos idle found regs] 0] = some (prgPt g, [b0, b1, b2, b3, .row 5 [wayAV pc pos idle found regs] 0]) := fz_plain _ (by simp [AV.plain, AV.plainL, plain_ins])
    have h2 : fz (.rf 4 1 0 0) [b0, b1, b2, b3, .row 5 [wayAV pc pos idle found regs] 0] = some (.pt [I pc, I pos, I idle, I found, .pt (regs.map I)], [b0, b1, b2, b3, .row 5 [wayAV pc pos idle found regs] 1]) :=
      fz_rf (x := wayAV pc pos idle found regs) (k := 5) (z := 0) rfl rfl rfl (by simp [AV.cells, AV.plain, AV.plainL, plain_ints])
    have h3 : ∀ H, fz (I start) H = some (I start, H) := fun H => rfl
    have hby : ∀ i, pol1.byref 60 i = false := fun i => rfl
    simp only [frzArgs, hby, Bool.false_eq_true, if_false, h1, h2, h3]
theorem f23 (g : Prg) (hb : PrgB g) (t : List Int) (pos most fuel : Int) (n : Nat) (hn : g.caps = n) (hc : checkG g t.length pos most fuel = 0) (hf2 : fuel ≤ 1000000) (H : List MB) :
    call Try.prog pol1 23 [prgAV g, .sl false (t.map I), I pos, I most, I fuel] H =
      some (resA pos n (runI (progOf g t) g.ins.length most fuel.toNat [⟨⟨0, pos.toNat, m1s⟩, 0, 0⟩] []), H) := by
  have h58 := fun ht => f58 g hb t ht pos most fuel
  rw [hc] at h58
  unfold checkG at hc
  split at hc
  · rename_i h; exact absurd hc h
  rename_i hv
  split at hc
  · cases hc
  rename_i hlen
  split at hc
  · cases hc
  rename_i hrange
  split at hc
  · cases hc
  rename_i hfuel
  have hv : validG g = 0 := by simpa using hv
  have hok := okay_of hv
  have h58 := h58 (by omega)
  have hcaps := hok.caps
  have hglen := hok.len
  obtain ⟨p0, rfl⟩ : ∃ p0 : Nat, pos = p0 := ⟨pos.toNat, by omega⟩
  obtain ⟨f0, rfl⟩ : ∃ f0 : Nat, fuel = f0 := ⟨fuel.toNat, by omega⟩
  simp only [Int.toNat_natCast]
  refine call_run Try.func23 rfl rfl rfl rfl rfl rfl (fun _ => rfl) (by simp [AV.plain, AV.plainL, plain_ints, plain_ins]) (plain_resA _ _ _) ?_ H
  generalize hR : runI (progOf g t) g.ins.length most f0 [⟨⟨0, p0, m1s⟩, 0, 0⟩] [] = R
  have hzg := fz_prg g
  simp +contextual (disch := omega) only [Try.f23, dd23, go_sem, ↓reduceIte, List.reduceReplicate, Nat.reduceAdd, Nat.reduceSub, reduceCtorEq, Nat.reduceLeDiff, Nat.reduceMul, Nat.reduceLT, Nat.reduceEqDiff, Int.reduceBNe, Int.reduceBEq, Int.reduceEq, Int.reduceLT, Int.reduceLE, Int.reduceGT, Int.reduceGE, mu23, Nat.reduceBEq, ↓wrap_up, ↓wrap_down, ↓wrap_pred, ↓wrap_sub_nat, Int.reduceToNat, h58, hzg, lookD, look]
  clear h58
  refine W_count (M := (mskOf (pol1.mask 23) (pol1.gc 23) (pol1.acts 23) 0 6)) rfl 18 (fun i => (⟨172, [(32, I i), (13, .rf 1 1 0 0), (5, prgPt g), (4, I f0), (3, I most), (2, I p0), (1, .sl false (t.map I))], [.row 3 [prgAV g] 1, .row 18 [.agg ((List.replicate i (-1 : Int)).map I ++ (List.replicate (18 - i) (0 : Int)).map I)] 0]⟩ : St))
    (fun i => True) ?_ ?_ trivial _ (by first | rfl | (refine prep_to (n := 2) (m := ⟨some [32, 13, 5, 4, 3, 2, 1], some 2, []⟩) rfl rfl ?_ ?_ ?_ <;> first | rfl | (simp [keepT, AV.underL, AV.under, MB.under, underL_plain, under_plain, underL_append, plain_ints, plain_span, plain_ins, plain_prg, -List.map_take, -List.map_replicate, -List.map_set]; done) | (simp [keepT, AV.underL, AV.under, MB.under, underL_plain, under_plain, underL_append, plain_ints, plain_span, plain_ins, plain_prg, -List.map_take, -List.map_replicate, -List.map_set]; omega)))
  · intro i hi _
    have hlen : ((List.replicate i (-1 : Int)).map I).length = i := by simp
    have hnx : (List.replicate (i + 1) (-1 : Int)).map I = (List.replicate i (-1)).map I ++ [I (-1)] := by rw [List.replicate_succ']; simp
    have hsp : (List.replicate (18 - i) (0 : Int)).map I = I 0 :: (List.replicate (18 - (i + 1)) (0 : Int)).map I := by
      rw [show 18 - i = (18 - (i + 1)) + 1 by omega, List.replicate_succ]; rfl
    rw [hnx, hsp]
    have hl2 : ((List.replicate (18 - (i + 1)) (0 : Int)).map I).length = 18 - (i + 1) := by simp
    have pl1 := plain_ints (List.replicate i (-1 : Int))
    have pl2 := plain_ints (List.replicate (18 - (i + 1)) (0 : Int))
    generalize (List.replicate i (-1 : Int)).map I = A at *
    generalize (List.replicate (18 - (i + 1)) (0 : Int)).map I = B at *
    have htk := fun B => take_top hlen B
    have hd1 := fun x B => drop_top hlen x B
    simp +contextual (disch := omega) only [Try.f23, dd23, go_sem, ↓reduceIte, List.reduceReplicate, Nat.reduceAdd, Nat.reduceSub, reduceCtorEq, Nat.reduceLeDiff, Nat.reduceMul, Nat.reduceLT, Nat.reduceEqDiff, Int.reduceBNe, Int.reduceBEq, Int.reduceEq, Int.reduceLT, Int.reduceLE, Int.reduceGT, Int.reduceGE, mu23, Nat.reduceBEq, ↓wrap_up, ↓wrap_down, ↓wrap_pred, ↓wrap_sub_nat, Int.reduceToNat, hlen, htk, hd1, Nat.mul_one]
    repeat' (first | intro _ | apply And.intro | (unfold dOk; kernel_rfl) | exact St.beq_refl _ | (show altO _ _ _ _ = true; kernel_rfl) | (show (_ || _) = true; kernel_rfl) | (show (_ && _) = true; kernel_rfl))
    exact (by first | rfl | (refine prep_to (n := 2) (m := ⟨some [32, 13, 5, 4, 3, 2, 1], some 2, []⟩) rfl rfl ?_ ?_ ?_ <;> first | rfl | (simp [keepT, AV.underL, AV.under, MB.under, underL_plain, under_plain, underL_append, plain_ints, plain_span, plain_ins, plain_prg, -List.map_take, -List.map_replicate, -List.map_set, pl1, pl2]; done) | (simp [keepT, AV.underL, AV.under, MB.under, underL_plain, under_plain, underL_append, plain_ints, plain_span, plain_ins, plain_prg, -List.map_take, -List.map_replicate, -List.map_set, pl1, pl2]; omega)))
  · intro _
    have hm1 : (List.replicate 18 (-1 : Int)).map I ++ (List.replicate (18 - 18) (0 : Int)).map I = m1s.map I := by simp [m1s]
    rw [hm1]
    have hlm : m1s.length = 18 := by simp [m1s]
    have hz : ∀ b0 : MB, fz (.rf 1 1 0 0) [b0, .row 18 [.agg (m1s.map I)] 0] = some (.pt (m1s.map I), [b0, .row 18 [.agg (m1s.map I)] 1]) := fun b0 =>
      fz_rf (x := .agg (m1s.map I)) (k := 18) (z := 0) rfl rfl rfl (plain_ints m1s)
    simp +contextual (disch := omega) only [Try.f23, dd23, go_sem, ↓reduceIte, List.reduceReplicate, Nat.reduceAdd, Nat.reduceSub, reduceCtorEq, Nat.reduceLeDiff, Nat.reduceMul, Nat.reduceLT, Nat.reduceEqDiff, Int.reduceBNe, Int.reduceBEq, Int.reduceEq, Int.reduceLT, Int.reduceLE, Int.reduceGT, Int.reduceGE, mu23, Nat.reduceBEq, ↓wrap_up, ↓wrap_down, ↓wrap_pred, ↓wrap_sub_nat, Int.reduceToNat, hz, lookD, look]
    refine W_for (M := (mskOf (pol1.mask 23) (pol1.gc 23) (pol1.acts 23) 0 12)) rfl (T23 g t p0 most n) (fun s => R = runI (progOf g t) g.ins.length most s.fuel s.todo s.out ∧ (∀ e ∈ s.todo, WayOk g t 18 e.w ∧ e.idle ≤ g.ins.length ∧ e.found ≤ s.out.length) ∧ s.fuel + s.out.length ≤ 1000000 ∧ s.todo.length + s.fuel ≤ 1000002 ∧ AV.plainL s.junk = true)
      (fun s => s.fuel) ⟨[⟨⟨0, p0, m1s⟩, 0, 0⟩], [], [], f0⟩ ?_ ⟨hR.symm, ?_, ?_, ?_, rfl⟩ _ ?_
    · rintro ⟨todo, junk, out, fuel⟩ ⟨hr, hw, ho, hl, hj⟩
      simp only at hr hw ho hl hj
      simp only [T23]
      have fin : ∀ (H' : List MB), getRow H' 2 = some (3, out.map fun w => mA (matOf p0 n w), 0) → R = some out → ∃ H2, fz (.tup [.ms 2 3 out.length 0 out.length, I 0]) H' = some (resA p0 n R, H2) := by
        intro H' h1 h2
        rw [h2]
        exact fz_tup_row h1 (by simp) (plain_matOf _ _ _)
      cases todo with
      | nil =>
        rw [runI_nil] at hr
        simp only [stA, List.reverse_nil, List.map_nil, List.length_nil]
        simp +contextual (disch := omega) only [Try.f23, dd23, go_sem, ↓reduceIte, List.reduceReplicate, Nat.reduceAdd, Nat.reduceSub, reduceCtorEq, Nat.reduceLeDiff, Nat.reduceMul, Nat.reduceLT, Nat.reduceEqDiff, Int.reduceBNe, Int.reduceBEq, Int.reduceEq, Int.reduceLT, Int.reduceLE, Int.reduceGT, Int.reduceGE, mu23, Nat.reduceBEq, ↓wrap_up, ↓wrap_down, ↓wrap_pred, ↓wrap_sub_nat, Int.reduceToNat]
        exact fin _ rfl hr
      | cons w rest =>
        have hww := hw w (List.mem_cons_self ..)
        have hrest : ∀ v ∈ rest, WayOk g t 18 v.w ∧ v.idle ≤ g.ins.length ∧ v.found ≤ out.length := fun v hv => hw v (List.mem_cons_of_mem _ hv)
        have hls := stA_len wayIA rest
        have hpl := plain_wayIs rest
        rw [stA_cons]
        simp only [List.length_cons] at hl ⊢
        by_cases hm : (out.length : Int) = most
        · rw [runI_full hm] at hr
          simp +contextual (disch := omega) only [Try.f23, dd23, go_sem, ↓reduceIte, List.reduceReplicate, Nat.reduceAdd, Nat.reduceSub, reduceCtorEq, Nat.reduceLeDiff, Nat.reduceMul, Nat.reduceLT, Nat.reduceEqDiff, Int.reduceBNe, Int.reduceBEq, Int.reduceEq, Int.reduceLT, Int.reduceLE, Int.reduceGT, Int.reduceGE, mu23, Nat.reduceBEq, ↓wrap_up, ↓wrap_down, ↓wrap_pred, ↓wrap_sub_nat, Int.reduceToNat]
          exact fin _ rfl hr
        · have htop := get_top hls (wayIA w) junk
          have htk := fun B => take_top hls B
          have hd1 := fun x B => drop_top hls x B
          have hd2 := fun x y B => drop_top2 hls x y B
          have htot : (stA wayIA rest).length + (junk.length + 1) = rest.length + 1 + junk.length := by omega
          simp +contextual (disch := omega) only [Try.f23, dd23, go_sem, ↓reduceIte, List.reduceReplicate, Nat.reduceAdd, Nat.reduceSub, reduceCtorEq, Nat.reduceLeDiff, Nat.reduceMul, Nat.reduceLT, Nat.reduceEqDiff, Int.reduceBNe, Int.reduceBEq, Int.reduceEq, Int.reduceLT, Int.reduceLE, Int.reduceGT, Int.reduceGE, mu23, Nat.reduceBEq, ↓wrap_up, ↓wrap_down, ↓wrap_pred, ↓wrap_sub_nat, Int.reduceToNat, htop, htot, Nat.add_sub_cancel, Nat.sub_zero]
          refine W_for (M := (mskOf (pol1.mask 23) (pol1.gc 23) (pol1.acts 23) 0 15)) rfl (T23i g t p0 most n) (fun s => R = runI (progOf g t) g.ins.length most s.fuel (s.e :: s.todo) s.out ∧ ¬ (s.out.length : Int) = most ∧
              (WayOk g t 18 s.e.w ∧ s.e.idle ≤ g.ins.length ∧ s.e.found ≤ s.out.length) ∧ (∀ e ∈ s.todo, WayOk g t 18 e.w ∧ e.idle ≤ g.ins.length ∧ e.found ≤ s.out.length) ∧ s.fuel + s.out.length ≤ 1000000 ∧ s.todo.length + 1 + s.fuel ≤ 1000002 ∧ AV.plainL s.junk = true ∧ s.fuel ≤ fuel)
            (fun s => s.fuel) ⟨w, rest, wayIA w :: junk, out, fuel⟩ ?_ ⟨hr, hm, hww, hrest, ho, hl, by simp [AV.plainL, AV.plain, plain_ints, hj], Nat.le_refl _⟩ _ (by first | rfl | (refine prep_to (n := 5) (m := ⟨some [17, 16, 15, 5, 4, 3, 2, 1], some 5, []⟩) rfl rfl ?_ ?_ ?_ <;> first | rfl | (simp [keepT, AV.underL, AV.under, MB.under, underL_plain, under_plain, underL_append, plain_ints, plain_span, plain_ins, plain_prg, -List.map_take, -List.map_replicate, -List.map_set, T23i, hj, hpl, plain_matOf2, matOf, matAV]; done) | (simp [keepT, AV.underL, AV.under, MB.under, underL_plain, under_plain, underL_append, plain_ints, plain_span, plain_ins, plain_prg, -List.map_take, -List.map_replicate, -List.map_set, T23i, hj, hpl, plain_matOf2, matOf, matAV]; omega)))
          clear hr hm hww hrest ho hl hj htop htk hd1 hd2 htot hls hpl fin hw
          generalize hff0 : fuel = fuel0
          clear hff0
          rintro ⟨e, todo, junk, out, fuel⟩ ⟨hr, hm, hww, hrest, ho, hl, hj, hfl⟩
          simp only at hr hm hww hrest ho hl hj hfl
          simp only [T23i]
          have hls := stA_len wayIA todo
          have hpl := plain_wayIs todo
          cases fuel with
          | zero =>
            rw [runI_zero hm] at hr
            subst hr
            simp +contextual (disch := omega) only [Try.f23, dd23, go_sem, ↓reduceIte, List.reduceReplicate, Nat.reduceAdd, Nat.reduceSub, reduceCtorEq, Nat.reduceLeDiff, Nat.reduceMul, Nat.reduceLT, Nat.reduceEqDiff, Int.reduceBNe, Int.reduceBEq, Int.reduceEq, Int.reduceLT, Int.reduceLE, Int.reduceGT, Int.reduceGE, mu23, Nat.reduceBEq, ↓wrap_up, ↓wrap_down, ↓wrap_pred, ↓wrap_sub_nat, Int.reduceToNat]
            exact ⟨_, rfl⟩
          | succ fuel =>
            by_cases hcirc : g.ins.length ≤ e.idle ∧ (most = -1 ∨ e.found = out.length)
            · rw [runI_circ hm hcirc] at hr
              subst hr
              have h59 := circ_true g hglen most e hww.2.1 out hcirc
              simp +contextual (disch := omega) only [Try.f23, dd23, go_sem, ↓reduceIte, List.reduceReplicate, Nat.reduceAdd, Nat.reduceSub, reduceCtorEq, Nat.reduceLeDiff, Nat.reduceMul, Nat.reduceLT, Nat.reduceEqDiff, Int.reduceBNe, Int.reduceBEq, Int.reduceEq, Int.reduceLT, Int.reduceLE, Int.reduceGT, Int.reduceGE, mu23, Nat.reduceBEq, ↓wrap_up, ↓wrap_down, ↓wrap_pred, ↓wrap_sub_nat, Int.reduceToNat, h59]
              exact ⟨_, rfl⟩
            · obtain ⟨i', d', hi', hd', h59, hrun⟩ := circ_step g (progOf g t) hglen most fuel e hww.2.1 todo out hww.2.2 hm hcirc
              rw [hrun] at hr
              clear hrun
              obtain ⟨⟨op, x, y, nn, set⟩, hi⟩ : ∃ i, g.ins[e.w.pc]? = some i := ⟨_, List.getElem?_eq_getElem hww.1.pc⟩
              have hpi : (progOf g t).ins e.w.pc = some ⟨op, x, y, nn, set⟩ := hi
              have hok1 := hok.ok _ (List.mem_of_getElem? hi)
              have hop := okIns_op hok1
              have hff := ok_facts hok1
              have hnx := hok.next hi
              have hset := hb.2 _ (List.mem_of_getElem? hi)
              have hstep := fun l => step_ok hok hww.1 (l := l)
              have hwp := hww.1.pc
              have hwa := hww.1.at_
              have hwr := hww.1.regs
              have htk := fun B => take_top hls B
              have hd1 := fun x B => drop_top hls x B
              simp only at hop hff hnx hset
              rcases hop with rfl | rfl | rfl | rfl | rfl | rfl
              · have hs : stepW (progOf g t) e.w = .done := by simp [stepW, hpi]
                rw [hs] at hr
                simp only [nextI] at hr
                have h60 := top_match g (((e.w.pc + 1 : Nat) : Int)) e.w.at_ i' d' p0 e.w.regs n hn hwr (by omega)
                simp only [matAV] at h60
                have hto : List.take out.length (out.map fun w => mA (matOf p0 n w)) = (out.map fun w => mA (matOf p0 n w)) := take_map_len rfl
                simp +contextual (disch := omega) only [Try.f23, dd23, go_sem, ↓reduceIte, List.reduceReplicate, Nat.reduceAdd, Nat.reduceSub, reduceCtorEq, Nat.reduceLeDiff, Nat.reduceMul, Nat.reduceLT, Nat.reduceEqDiff, Int.reduceBNe, Int.reduceBEq, Int.reduceEq, Int.reduceLT, Int.reduceLE, Int.reduceGT, Int.reduceGE, mu23, Nat.reduceBEq, ↓wrap_up, ↓wrap_down, ↓wrap_pred, ↓wrap_sub_nat, Int.reduceToNat, hi, h59, h60, hto, Nat.sub_zero]
                repeat' (first | intro _ | apply And.intro | (unfold dOk; kernel_rfl) | exact St.beq_refl _ | (show altO _ _ _ _ = true; kernel_rfl) | (show (_ || _) = true; kernel_rfl) | (show (_ && _) = true; kernel_rfl))
                refine ⟨⟨todo, junk, out ++ [e.w], fuel⟩, ⟨hr, fun v hv => ⟨(hrest v hv).1, (hrest v hv).2.1, by have := (hrest v hv).2.2; simp; omega⟩, by simp; omega, by simp only []; omega, hj⟩, by simp only []; omega, ?_⟩
                exact (by first | rfl | (refine prep_to (n := 4) (m := ⟨some [16, 15, 5, 4, 3, 2, 1], some 4, []⟩) rfl rfl ?_ ?_ ?_ <;> first | rfl | (simp [keepT, AV.underL, AV.under, MB.under, underL_plain, under_plain, underL_append, plain_ints, plain_span, plain_ins, plain_prg, -List.map_take, -List.map_replicate, -List.map_set, T23, hj, hpl, plain_matOf2, matOf, matAV, stA_one]; done) | (simp [keepT, AV.underL, AV.under, MB.under, underL_plain, under_plain, underL_append, plain_ints, plain_span, plain_ins, plain_prg, -List.map_take, -List.map_replicate, -List.map_set, T23, hj, hpl, plain_matOf2, matOf, matAV, stA_one]; omega)))
              · -- one symbol
                cases htx : t[e.w.at_]? with
                | none =>
                  have hle := List.getElem?_eq_none_iff.1 htx
                  have hh : (progOf g t).has set e.w.at_ = false := by simp [progOf, htx]
                  have hs : stepW (progOf g t) e.w = .ways [] := by simp [stepW, hpi, hh]
                  rw [hs] at hr
                  simp only [nextI, List.map_nil, List.nil_append] at hr
                  simp +contextual (disch := omega) only [Try.f23, dd23, go_sem, ↓reduceIte, List.reduceReplicate, Nat.reduceAdd, Nat.reduceSub, reduceCtorEq, Nat.reduceLeDiff, Nat.reduceMul, Nat.reduceLT, Nat.reduceEqDiff, Int.reduceBNe, Int.reduceBEq, Int.reduceEq, Int.reduceLT, Int.reduceLE, Int.reduceGT, Int.reduceGE, mu23, Nat.reduceBEq, ↓wrap_up, ↓wrap_down, ↓wrap_pred, ↓wrap_sub_nat, Int.reduceToNat, hi, h59, Nat.sub_zero]
                  repeat' (first | intro _ | apply And.intro | (unfold dOk; kernel_rfl) | exact St.beq_refl _ | (show altO _ _ _ _ = true; kernel_rfl) | (show (_ || _) = true; kernel_rfl) | (show (_ && _) = true; kernel_rfl))
                  refine ⟨⟨todo, junk, out, fuel⟩, ⟨hr, hrest, by simp only []; omega, by simp only []; omega, hj⟩, by simp only []; omega, ?_⟩
                  exact (by first | rfl | (refine prep_to (n := 4) (m := ⟨some [16, 15, 5, 4, 3, 2, 1], some 4, []⟩) rfl rfl ?_ ?_ ?_ <;> first | rfl | (simp [keepT, AV.underL, AV.under, MB.under, underL_plain, under_plain, underL_append, plain_ints, plain_span, plain_ins, plain_prg, -List.map_take, -List.map_replicate, -List.map_set, T23, hj, hpl, plain_matOf2, matOf, matAV, stA_one]; done) | (simp [keepT, AV.underL, AV.under, MB.under, underL_plain, under_plain, underL_append, plain_ints, plain_span, plain_ins, plain_prg, -List.map_take, -List.map_replicate, -List.map_set, T23, hj, hpl, plain_matOf2, matOf, matAV, stA_one]; omega)))
                | some sy =>
                  have hlt := (List.getElem?_eq_some_iff.1 htx).1
                  have h43 := f43 set sy hset
                  cases hhas : hasSpan set sy with
                  | false =>
                    rw [hhas] at h43
                    have hh : (progOf g t).has set e.w.at_ = false := by simp [progOf, htx, hhas]
                    have hs : stepW (progOf g t) e.w = .ways [] := by simp [stepW, hpi, hh]
                    rw [hs] at hr
                    simp only [nextI, List.map_nil, List.nil_append] at hr
                    simp +contextual (disch := omega) only [Try.f23, dd23, go_sem, ↓reduceIte, List.reduceReplicate, Nat.reduceAdd, Nat.reduceSub, reduceCtorEq, Nat.reduceLeDiff, Nat.reduceMul, Nat.reduceLT, Nat.reduceEqDiff, Int.reduceBNe, Int.reduceBEq, Int.reduceEq, Int.reduceLT, Int.reduceLE, Int.reduceGT, Int.reduceGE, mu23, Nat.reduceBEq, ↓wrap_up, ↓wrap_down, ↓wrap_pred, ↓wrap_sub_nat, Int.reduceToNat, hi, h59, Nat.sub_zero, h43, htx]
                    repeat' (first | intro _ | apply And.intro | (unfold dOk; kernel_rfl) | exact St.beq_refl _ | (show altO _ _ _ _ = true; kernel_rfl) | (show (_ || _) = true; kernel_rfl) | (show (_ && _) = true; kernel_rfl))
                    refine ⟨⟨todo, junk, out, fuel⟩, ⟨hr, hrest, by simp only []; omega, by simp only []; omega, hj⟩, by simp only []; omega, ?_⟩
                    exact (by first | rfl | (refine prep_to (n := 4) (m := ⟨some [16, 15, 5, 4, 3, 2, 1], some 4, []⟩) rfl rfl ?_ ?_ ?_ <;> first | rfl | (simp [keepT, AV.underL, AV.under, MB.under, underL_plain, under_plain, underL_append, plain_ints, plain_span, plain_ins, plain_prg, -List.map_take, -List.map_replicate, -List.map_set, T23, hj, hpl, plain_matOf2, matOf, matAV, stA_one]; done) | (simp [keepT, AV.underL, AV.under, MB.under, underL_plain, under_plain, underL_append, plain_ints, plain_span, plain_ins, plain_prg, -List.map_take, -List.map_replicate, -List.map_set, T23, hj, hpl, plain_matOf2, matOf, matAV, stA_one]; omega)))
                  | true =>
                    rw [hhas] at h43
                    have hh : (progOf g t).has set e.w.at_ = true := by simp [progOf, htx, hhas]
                    have hs : stepW (progOf g t) e.w = .ways [⟨e.w.pc + 1, e.w.at_ + 1, e.w.regs⟩] := by simp [stepW, hpi, hh]
                    have hst := hstep _ hs
                    have hne : ¬ e.w.at_ + 1 = e.w.at_ := by omega
                    rw [hs] at hr
                    simp only [nextI, List.map_nil, List.map_cons, hne, if_false, List.cons_append, List.nil_append] at hr
                    simp +contextual (disch := omega) only [Try.f23, dd23, go_sem, ↓reduceIte, List.reduceReplicate, Nat.reduceAdd, Nat.reduceSub, reduceCtorEq, Nat.reduceLeDiff, Nat.reduceMul, Nat.reduceLT, Nat.reduceEqDiff, Int.reduceBNe, Int.reduceBEq, Int.reduceEq, Int.reduceLT, Int.reduceLE, Int.reduceGT, Int.reduceGE, mu23, Nat.reduceBEq, ↓wrap_up, ↓wrap_down, ↓wrap_pred, ↓wrap_sub_nat, Int.reduceToNat, hi, h59, Nat.sub_zero, h43, htx]
                    repeat' (first | intro _ | apply And.intro | (unfold dOk; kernel_rfl) | exact St.beq_refl _ | (show altO _ _ _ _ = true; kernel_rfl) | (show (_ || _) = true; kernel_rfl) | (show (_ && _) = true; kernel_rfl))
                    refine ⟨⟨⟨⟨e.w.pc + 1, e.w.at_ + 1, e.w.regs⟩, 0, out.length⟩, todo, junk, out, fuel⟩, ⟨hr, hm, ⟨hst _ (List.mem_cons_self ..), by simp only []; omega, by simp only []; omega⟩, hrest, by simp only []; omega, by simp only []; omega, hj, by simp only []; omega⟩, Nat.lt_succ_self _, ?_⟩
                    exact (by first | rfl | (refine prep_to (n := 5) (m := ⟨some [17, 16, 15, 5, 4, 3, 2, 1], some 5, []⟩) rfl rfl ?_ ?_ ?_ <;> first | rfl | (simp [keepT, AV.underL, AV.under, MB.under, underL_plain, under_plain, underL_append, plain_ints, plain_span, plain_ins, plain_prg, -List.map_take, -List.map_replicate, -List.map_set, T23i, hj, hpl, plain_matOf2, matOf, matAV, stA_one]; done) | (simp [keepT, AV.underL, AV.under, MB.under, underL_plain, under_plain, underL_append, plain_ints, plain_span, plain_ins, plain_prg, -List.map_take, -List.map_replicate, -List.map_set, T23i, hj, hpl, plain_matOf2, matOf, matAV, stA_one]; omega)))
              · -- two ways
                have hs : stepW (progOf g t) e.w = .ways [⟨x.toNat, e.w.at_, e.w.regs⟩, ⟨y.toNat, e.w.at_, e.w.regs⟩] := by simp [stepW, hpi]
                have hst := hstep _ hs
                have hxy := hff.1 rfl
                obtain ⟨x', rfl⟩ : ∃ x' : Nat, x = x' := ⟨x.toNat, by omega⟩
                obtain ⟨y', rfl⟩ : ∃ y' : Nat, y = y' := ⟨y.toNat, by omega⟩
                simp only [Int.toNat_natCast] at hs hst hr
                rw [hs] at hr
                simp only [nextI, List.map_nil, List.map_cons, if_true, List.cons_append, List.nil_append] at hr
                have hgo : ∀ (junk' : List AV), AV.plainL junk' = true → ∀ v ∈ (⟨⟨y', e.w.at_, e.w.regs⟩, i', d'⟩ :: todo : List WayI), WayOk g t 18 v.w ∧ v.idle ≤ g.ins.length ∧ v.found ≤ out.length := by
                  intro _ _ v hv
                  rcases List.mem_cons.1 hv with e | e
                  · rw [e]; exact ⟨hst _ (by simp), hi', hd'⟩
                  · exact hrest v e
                cases junk with
                | nil =>
                  have htot0 : (stA wayIA todo).length = todo.length := by omega
                  have htk0 : List.take todo.length (stA wayIA todo) = stA wayIA todo := List.take_of_length_le (by omega)
                  simp +contextual (disch := omega) only [Try.f23, dd23, go_sem, ↓reduceIte, List.reduceReplicate, Nat.reduceAdd, Nat.reduceSub, reduceCtorEq, Nat.reduceLeDiff, Nat.reduceMul, Nat.reduceLT, Nat.reduceEqDiff, Int.reduceBNe, Int.reduceBEq, Int.reduceEq, Int.reduceLT, Int.reduceLE, Int.reduceGT, Int.reduceGE, mu23, Nat.reduceBEq, ↓wrap_up, ↓wrap_down, ↓wrap_pred, ↓wrap_sub_nat, Int.reduceToNat, hi, h59, Nat.sub_zero, htot0, htk0]
                  repeat' (first | intro _ | apply And.intro | (unfold dOk; kernel_rfl) | exact St.beq_refl _ | (show altO _ _ _ _ = true; kernel_rfl) | (show (_ || _) = true; kernel_rfl) | (show (_ && _) = true; kernel_rfl))
                  refine ⟨⟨⟨⟨x', e.w.at_, e.w.regs⟩, i', d'⟩, ⟨⟨y', e.w.at_, e.w.regs⟩, i', d'⟩ :: todo, [], out, fuel⟩, ⟨hr, hm, ⟨hst _ (List.mem_cons_self ..), hi', hd'⟩, hgo [] rfl, by simp only []; omega, by simp; omega, rfl, by simp only []; omega⟩, Nat.lt_succ_self _, ?_⟩
                  exact (by first | rfl | (refine prep_to (n := 5) (m := ⟨some [17, 16, 15, 5, 4, 3, 2, 1], some 5, []⟩) rfl rfl ?_ ?_ ?_ <;> first | rfl | (simp [keepT, AV.underL, AV.under, MB.under, underL_plain, under_plain, underL_append, plain_ints, plain_span, plain_ins, plain_prg, -List.map_take, -List.map_replicate, -List.map_set, T23i, hj, hpl, plain_matOf2, matOf, matAV, stA_one]; done) | (simp [keepT, AV.underL, AV.under, MB.under, underL_plain, under_plain, underL_append, plain_ints, plain_span, plain_ins, plain_prg, -List.map_take, -List.map_replicate, -List.map_set, T23i, hj, hpl, plain_matOf2, matOf, matAV, stA_one]; omega)))
                | cons j0 junk =>
                  simp only [AV.plainL, Bool.and_eq_true] at hj
                  have hj := hj.2
                  have htot2 : (stA wayIA todo).length + (junk.length + 1) = todo.length + (junk.length + 1) := by omega
                  simp only [List.length_cons]
                  simp +contextual (disch := omega) only [Try.f23, dd23, go_sem, ↓reduceIte, List.reduceReplicate, Nat.reduceAdd, Nat.reduceSub, reduceCtorEq, Nat.reduceLeDiff, Nat.reduceMul, Nat.reduceLT, Nat.reduceEqDiff, Int.reduceBNe, Int.reduceBEq, Int.reduceEq, Int.reduceLT, Int.reduceLE, Int.reduceGT, Int.reduceGE, mu23, Nat.reduceBEq, ↓wrap_up, ↓wrap_down, ↓wrap_pred, ↓wrap_sub_nat, Int.reduceToNat, hi, h59, Nat.sub_zero, htot2, htk, hd1]
                  repeat' (first | intro _ | apply And.intro | (unfold dOk; kernel_rfl) | exact St.beq_refl _ | (show altO _ _ _ _ = true; kernel_rfl) | (show (_ || _) = true; kernel_rfl) | (show (_ && _) = true; kernel_rfl))
                  refine ⟨⟨⟨⟨x', e.w.at_, e.w.regs⟩, i', d'⟩, ⟨⟨y', e.w.at_, e.w.regs⟩, i', d'⟩ :: todo, junk, out, fuel⟩, ⟨hr, hm, ⟨hst _ (List.mem_cons_self ..), hi', hd'⟩, hgo junk hj, by simp only []; omega, by simp; omega, hj, by simp only []; omega⟩, Nat.lt_succ_self _, ?_⟩
                  exact (by first | rfl | (refine prep_to (n := 5) (m := ⟨some [17, 16, 15, 5, 4, 3, 2, 1], some 5, []⟩) rfl rfl ?_ ?_ ?_ <;> first | rfl | (simp [keepT, AV.underL, AV.under, MB.under, underL_plain, under_plain, underL_append, plain_ints, plain_span, plain_ins, plain_prg, -List.map_take, -List.map_replicate, -List.map_set, T23i, hj, hpl, plain_matOf2, matOf, matAV, stA_one]; done) | (simp [keepT, AV.underL, AV.under, MB.under, underL_plain, under_plain, underL_append, plain_ints, plain_span, plain_ins, plain_prg, -List.map_take, -List.map_replicate, -List.map_set, T23i, hj, hpl, plain_matOf2, matOf, matAV, stA_one]; omega)))
              · -- a jump
                have hs : stepW (progOf g t) e.w = .ways [⟨x.toNat, e.w.at_, e.w.regs⟩] := by simp [stepW, hpi]
                have hst := hstep _ hs
                have hxy := hff.2.1 rfl
                obtain ⟨x', rfl⟩ : ∃ x' : Nat, x = x' := ⟨x.toNat, by omega⟩
                simp only [Int.toNat_natCast] at hs hst hr
                rw [hs] at hr
                simp only [nextI, List.map_nil, List.map_cons, if_true, List.cons_append, List.nil_append] at hr
                simp +contextual (disch := omega) only [Try.f23, dd23, go_sem, ↓reduceIte, List.reduceReplicate, Nat.reduceAdd, Nat.reduceSub, reduceCtorEq, Nat.reduceLeDiff, Nat.reduceMul, Nat.reduceLT, Nat.reduceEqDiff, Int.reduceBNe, Int.reduceBEq, Int.reduceEq, Int.reduceLT, Int.reduceLE, Int.reduceGT, Int.reduceGE, mu23, Nat.reduceBEq, ↓wrap_up, ↓wrap_down, ↓wrap_pred, ↓wrap_sub_nat, Int.reduceToNat, hi, h59, Nat.sub_zero]
                repeat' (first | intro _ | apply And.intro | (unfold dOk; kernel_rfl) | exact St.beq_refl _ | (show altO _ _ _ _ = true; kernel_rfl) | (show (_ || _) = true; kernel_rfl) | (show (_ && _) = true; kernel_rfl))
                refine ⟨⟨⟨⟨x', e.w.at_, e.w.regs⟩, i', d'⟩, todo, junk, out, fuel⟩, ⟨hr, hm, ⟨hst _ (List.mem_cons_self ..), by simp only []; omega, by simp only []; omega⟩, hrest, by simp only []; omega, by simp only []; omega, hj, by simp only []; omega⟩, Nat.lt_succ_self _, ?_⟩
                exact (by first | rfl | (refine prep_to (n := 5) (m := ⟨some [17, 16, 15, 5, 4, 3, 2, 1], some 5, []⟩) rfl rfl ?_ ?_ ?_ <;> first | rfl | (simp [keepT, AV.underL, AV.under, MB.under, underL_plain, under_plain, underL_append, plain_ints, plain_span, plain_ins, plain_prg, -List.map_take, -List.map_replicate, -List.map_set, T23i, hj, hpl, plain_matOf2, matOf, matAV, stA_one]; done) | (simp [keepT, AV.underL, AV.under, MB.under, underL_plain, under_plain, underL_append, plain_ints, plain_span, plain_ins, plain_prg, -List.map_take, -List.map_replicate, -List.map_set, T23i, hj, hpl, plain_matOf2, matOf, matAV, stA_one]; omega)))
              · -- a register
                have hs : stepW (progOf g t) e.w = .ways [⟨e.w.pc + 1, e.w.at_, e.w.regs.set nn.toNat e.w.at_⟩] := by simp [stepW, hpi]
                have hst := hstep _ hs
                have hxy := hff.2.2 rfl
                obtain ⟨n', rfl⟩ : ∃ n' : Nat, nn = n' := ⟨nn.toNat, by omega⟩
                simp only [Int.toNat_natCast] at hs hst hr
                rw [hs] at hr
                simp only [nextI, List.map_nil, List.map_cons, if_true, List.cons_append, List.nil_append] at hr
                have hlm : (e.w.regs.map I).length = 18 := by simp [hwr]
                have htk18 : List.take 18 (e.w.regs.map I) = e.w.regs.map I := List.take_of_length_le (by omega)
                have hal : (e.w.regs.map I).all AV.ok = true := by
                  rw [List.all_eq_true]
                  intro x hx
                  obtain ⟨i, _, rfl⟩ := List.mem_map.1 hx
                  rfl
                have hst2 : List.take n' (e.w.regs.map I) ++ (I e.w.at_ :: List.drop (n' + 1) (e.w.regs.map I)) = (e.w.regs.set n' e.w.at_).map I := by
                  rw [List.map_set, List.set_eq_take_append_cons_drop, if_pos (by simp; omega)]
                have hz : ∀ (b0 b1 b2 b3 : MB) (pc : Int) (cs : List Int), fzs [.agg [I pc, I e.w.at_, I i', I d', .rf 5 1 0 0]] [b0, b1, b2, b3, .row 5 [.agg [I pc, I e.w.at_, I i', I d', .rf 5 1 0 0]] 0, .row 18 [.agg (cs.map I)] 0] =
                    some ([.agg [I pc, I e.w.at_, I i', I d', .pt (cs.map I)]], [b0, b1, b2, b3, .row 5 [.agg [I pc, I e.w.at_, I i', I d', .rf 5 1 0 0]] 0, .row 18 [.agg (cs.map I)] 1]) := by
                  intro b0 b1 b2 b3 pc cs
                  have h1 : fzA (fzJ 6) (.rf 5 1 0 0) [b0, b1, b2, b3, .row 5 [.agg [I pc, I e.w.at_, I i', I d', .rf 5 1 0 0]] 0, .row 18 [.agg (cs.map I)] 0] =
                      some (.pt (cs.map I), [b0, b1, b2, b3, .row 5 [.agg [I pc, I e.w.at_, I i', I d', .rf 5 1 0 0]] 0, .row 18 [.agg (cs.map I)] 1]) :=
                    fz_rf (x := .agg (cs.map I)) (k := 18) (z := 0) rfl rfl rfl (plain_ints cs)
                  simp only [fzs, fzL, fzA_agg, fzA_int, h1]
                simp +contextual (disch := omega) only [Try.f23, dd23, go_sem, ↓reduceIte, List.reduceReplicate, Nat.reduceAdd, Nat.reduceSub, reduceCtorEq, Nat.reduceLeDiff, Nat.reduceMul, Nat.reduceLT, Nat.reduceEqDiff, Int.reduceBNe, Int.reduceBEq, Int.reduceEq, Int.reduceLT, Int.reduceLE, Int.reduceGT, Int.reduceGE, mu23, Nat.reduceBEq, ↓wrap_up, ↓wrap_down, ↓wrap_pred, ↓wrap_sub_nat, Int.reduceToNat, hi, h59, Nat.sub_zero, hlm, htk18, hal, hst2, hz, AV.beqL_refl]
                repeat' (first | intro _ | apply And.intro | (unfold dOk; kernel_rfl) | exact St.beq_refl _ | (show altO _ _ _ _ = true; kernel_rfl) | (show (_ || _) = true; kernel_rfl) | (show (_ && _) = true; kernel_rfl))
                refine ⟨⟨⟨⟨e.w.pc + 1, e.w.at_, e.w.regs.set n' e.w.at_⟩, i', d'⟩, todo, junk, out, fuel⟩, ⟨hr, hm, ⟨hst _ (List.mem_cons_self ..), by simp only []; omega, by simp only []; omega⟩, hrest, by simp only []; omega, by simp only []; omega, hj, by simp only []; omega⟩, Nat.lt_succ_self _, ?_⟩
                exact (by first | rfl | (refine prep_to (n := 5) (m := ⟨some [17, 16, 15, 5, 4, 3, 2, 1], some 5, []⟩) rfl rfl ?_ ?_ ?_ <;> first | rfl | (simp [keepT, AV.underL, AV.under, MB.under, underL_plain, under_plain, underL_append, plain_ints, plain_span, plain_ins, plain_prg, -List.map_take, -List.map_replicate, -List.map_set, T23i, hj, hpl, plain_matOf2, matOf, matAV, stA_one]; done) | (simp [keepT, AV.underL, AV.under, MB.under, underL_plain, under_plain, underL_append, plain_ints, plain_span, plain_ins, plain_prg, -List.map_take, -List.map_replicate, -List.map_set, T23i, hj, hpl, plain_matOf2, matOf, matAV, stA_one]; omega)))
              · -- an assertion
                have h61 := f61 nn t e.w.at_ hww.1.at_ (by omega)
                cases hh2 : assertI nn (befS t e.w.at_) t[e.w.at_]? with
                | false =>
                  rw [hh2] at h61
                  have hh : (progOf g t).holds nn e.w.at_ = false := hh2
                  have hs : stepW (progOf g t) e.w = .ways [] := by simp [stepW, hpi, hh]
                  rw [hs] at hr
                  simp only [nextI, List.map_nil, List.nil_append] at hr
                  simp +contextual (disch := omega) only [Try.f23, dd23, go_sem, ↓reduceIte, List.reduceReplicate, Nat.reduceAdd, Nat.reduceSub, reduceCtorEq, Nat.reduceLeDiff, Nat.reduceMul, Nat.reduceLT, Nat.reduceEqDiff, Int.reduceBNe, Int.reduceBEq, Int.reduceEq, Int.reduceLT, Int.reduceLE, Int.reduceGT, Int.reduceGE, mu23, Nat.reduceBEq, ↓wrap_up, ↓wrap_down, ↓wrap_pred, ↓wrap_sub_nat, Int.reduceToNat, hi, h59, Nat.sub_zero, h61]
                  repeat' (first | intro _ | apply And.intro | (unfold dOk; kernel_rfl) | exact St.beq_refl _ | (show altO _ _ _ _ = true; kernel_rfl) | (show (_ || _) = true; kernel_rfl) | (show (_ && _) = true; kernel_rfl))
                  refine ⟨⟨todo, junk, out, fuel⟩, ⟨hr, hrest, by simp only []; omega, by simp only []; omega, hj⟩, by simp only []; omega, ?_⟩
                  exact (by first | rfl | (refine prep_to (n := 4) (m := ⟨some [16, 15, 5, 4, 3, 2, 1], some 4, []⟩) rfl rfl ?_ ?_ ?_ <;> first | rfl | (simp [keepT, AV.underL, AV.under, MB.under, underL_plain, under_plain, underL_append, plain_ints, plain_span, plain_ins, plain_prg, -List.map_take, -List.map_replicate, -List.map_set, T23, hj, hpl, plain_matOf2, matOf, matAV, stA_one]; done) | (simp [keepT, AV.underL, AV.under, MB.under, underL_plain, under_plain, underL_append, plain_ints, plain_span, plain_ins, plain_prg, -List.map_take, -List.map_replicate, -List.map_set, T23, hj, hpl, plain_matOf2, matOf, matAV, stA_one]; omega)))
                | true =>
                  rw [hh2] at h61
                  have hh : (progOf g t).holds nn e.w.at_ = true := hh2
                  have hs : stepW (progOf g t) e.w = .ways [⟨e.w.pc + 1, e.w.at_, e.w.regs⟩] := by simp [stepW, hpi, hh]
                  have hst := hstep _ hs
                  rw [hs] at hr
                  simp only [nextI, List.map_nil, List.map_cons, if_true, List.cons_append, List.nil_append] at hr
                  simp +contextual (disch := omega) only [Try.f23, dd23, go_sem, ↓reduceIte, List.reduceReplicate, Nat.reduceAdd, Nat.reduceSub, reduceCtorEq, Nat.reduceLeDiff, Nat.reduceMul, Nat.reduceLT, Nat.reduceEqDiff, Int.reduceBNe, Int.reduceBEq, Int.reduceEq, Int.reduceLT, Int.reduceLE, Int.reduceGT, Int.reduceGE, mu23, Nat.reduceBEq, ↓wrap_up, ↓wrap_down, ↓wrap_pred, ↓wrap_sub_nat, Int.reduceToNat, hi, h59, Nat.sub_zero, h61]
                  repeat' (first | intro _ | apply And.intro | (unfold dOk; kernel_rfl) | exact St.beq_refl _ | (show altO _ _ _ _ = true; kernel_rfl) | (show (_ || _) = true; kernel_rfl) | (show (_ && _) = true; kernel_rfl))
                  refine ⟨⟨⟨⟨e.w.pc + 1, e.w.at_, e.w.regs⟩, i', d'⟩, todo, junk, out, fuel⟩, ⟨hr, hm, ⟨hst _ (List.mem_cons_self ..), by simp only []; omega, by simp only []; omega⟩, hrest, by simp only []; omega, by simp only []; omega, hj, by simp only []; omega⟩, Nat.lt_succ_self _, ?_⟩
                  exact (by first | rfl | (refine prep_to (n := 5) (m := ⟨some [17, 16, 15, 5, 4, 3, 2, 1], some 5, []⟩) rfl rfl ?_ ?_ ?_ <;> first | rfl | (simp [keepT, AV.underL, AV.under, MB.under, underL_plain, under_plain, underL_append, plain_ints, plain_span, plain_ins, plain_prg, -List.map_take, -List.map_replicate, -List.map_set, T23i, hj, hpl, plain_matOf2, matOf, matAV, stA_one]; done) | (simp [keepT, AV.underL, AV.under, MB.under, underL_plain, under_plain, underL_append, plain_ints, plain_span, plain_ins, plain_prg, -List.map_take, -List.map_replicate, -List.map_set, T23i, hj, hpl, plain_matOf2, matOf, matAV, stA_one]; omega)))
    · intro w hw
      rw [List.mem_singleton.1 hw]
      exact ⟨⟨by show 0 < _; omega, by show p0 ≤ _; omega, hlm⟩, Nat.zero_le _, Nat.zero_le _⟩
    · simp; omega
    · simp; omega
    · exact (by first | rfl | (refine prep_to (n := 4) (m := ⟨some [16, 15, 5, 4, 3, 2, 1], some 4, []⟩) rfl rfl ?_ ?_ ?_ <;> first | rfl | (simp [keepT, AV.underL, AV.under, MB.under, underL_plain, under_plain, underL_append, plain_ints, plain_span, plain_ins, plain_prg, -List.map_take, -List.map_replicate, -List.map_set, T23, stA]; done) | (simp [keepT, AV.underL, AV.under, MB.under, underL_plain, under_plain, underL_append, plain_ints, plain_span, plain_ins, plain_prg, -List.map_take, -List.map_replicate, -List.map_set, T23, stA]; omega)))
end
end Go.Ev
