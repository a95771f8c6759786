/- Functions of the program, each with what it computes; no further conditions. -/
import Derived.Test.YtpbobopcmhpbbaaB05
import Derived.Test.YtpbobopcmhpbbaaB11
import Derived.Test.YtpbobopcmhpbbaaB10
set_option linter.unusedVariables false
set_option linter.unusedSimpArgs false
namespace Go.Ev
attribute [local go_sem] eq_self bindW_some bindW_map bindW_ite bindW_iteN W_seq W_region W_draw W_cond W_condK W_ret W_skip W_exit W_scope W_label W_block blockK_norm blockK_ret blockK_exit WO_nil WO_cons WO_guard WD_nil WD_cons WD_guard guardV guardW_boolT guardW_boolF guardW_tup fpL_some fpL_none footprint thenK_norm thenK_ret thenK_exit put_some put_none ev_tmp ev_con ev_func ofK_int ofK_bool ofK_str ofK_nil evOp evBuiltin evCall evLen getElem_16 getElem_4 List.length_cons List.length_nil List.cons_append List.nil_append List.append_nil if_false if_true Bool.false_eq_true Bool.true_eq_false Option.map_some Option.map_none List.map_cons List.map_nil evBinOp evUn asB_bool splitB_decide splitB_true splitB_false splitB_beq splitB_bne splitB_not endK_ret endK_norm List.getElem?_cons_zero List.getElem?_cons_succ evResults evResult packRes retK_norm retK_ret cellsAt mkVal evFieldAddr evField evIndexAddr evPart evStore evBuild evBuildSlice fillC fillE evSlice evMakeSlice evConvert getRow AV.cells List.head?_cons List.drop_zero List.drop_succ_cons List.take_zero List.take_succ_cons List.drop_nil List.take_nil List.all_cons List.all_nil AV.ok Bool.and_self Bool.and_true Bool.true_and and_self and_true true_and Nat.zero_add Nat.add_zero setCells splice pairsOk pairsX altW_none altW_some cfg_al WI_nil WI_cons FP.apart heapEq_refl sameAt_refl Bool.or_true Bool.true_or Bool.or_false srcElems elemsOf mutDst roundK_norm roundK_exit roundK_ret List.length_map List.getElem?_map Int.toNat_natCast decide_true decide_false Bool.not_true Bool.not_false List.set set_0 set_1 set_2 set_3 set_4 look_hit look lookD_hit lookD_cons lookD_nil ins_hit ins upd_hit upd rem1_hit rem1 dropT dropSt_eq initT cfg_dd cfg_bd cfg_ra actL_nil actL_cons act1 updT_hit updT retE_norm retE_ret bndO bnd evEq eqCells not_false_eq_true not_true_eq_false toList_some Array.size_empty List.length_append endE_norm endE_ret head_take1 List.contains_nil List.contains_cons Bool.or_self dlt_t dlt_f dle_t dle_f dgt_t dgt_f dge_t dge_f beq_t beq_f bne_t bne_f lt_T le_T nle_T nle_F Go.IntWalk.i64_in Go.IntWalk.i64_quo Go.IntWalk.rem_in ty0 ty3 ty4 ty36
section
attribute [local go_sem] evAppend frzB List.map_append tySzE List.head?_drop Nat.mul_one sameAt_zero sameAt_two sameAt_three sameAt_four sameAt_five room_ok ty5 ty71 ty76 ty145 ty147
open Go.Proofs Go.RowKit Go.IntWalk
set_option maxRecDepth 100000
set_option linter.unusedSimpArgs false
set_option linter.unusedVariables false
set_option maxHeartbeats 8000000

/-- A reader's block. -/
abbrev rdB (s : RS) : MB := .row 3 [.agg [.sl false (s.bs.map B8), I s.at_, I s.wr]] 0
theorem keptOk_pre (n : Nat) (x y : MB) (K L : List MB) (h : MB.under n y = true) : ∀ A : List MB, keptOk n (A ++ x :: K) (A ++ y :: (K ++ L)) = true
  | [] => by
    simp only [List.nil_append, keptOk, h, Bool.or_true, Bool.true_and]
    exact keptOk_self n L K
  | a :: A => by simp [keptOk, MB.beq_refl, keptOk_pre n x y K L h A]
theorem take_pre {α : Type} (x y : α) (K L : List α) : ∀ A : List α, (A ++ y :: (K ++ L)).take (A ++ x :: K).length = A ++ y :: K
  | [] => by simp
  | a :: A => by
    simp only [List.cons_append, List.length_cons, List.take_succ_cons, take_pre x y K L A]
theorem ret_rd {f : Nat} (hk : pol1.keep f = false) (ho : pol1.own f = false) {r : AV} (hr : AV.plain r = true) (A K L : List MB) (s s' : RS) :
    retPol pol1 f (A ++ rdB s :: K) r (A ++ rdB s' :: (K ++ L)) = some (r, A ++ rdB s' :: K) :=
  retPol_keep hk ho hr (keptOk_pre _ _ _ _ _ (by simp [MB.under, AV.underL, AV.under, underL_plain, plain_bytes]) A) (take_pre _ _ _ _ _)
theorem ret_rd0 {f : Nat} (hk : pol1.keep f = false) (ho : pol1.own f = false) {r : AV} (hr : AV.plain r = true) (A K : List MB) (s s' : RS) :
    retPol pol1 f (A ++ rdB s :: K) r (A ++ rdB s' :: K) = some (r, A ++ rdB s' :: K) := by
  have := ret_rd hk ho hr A K [] s s'
  rwa [List.append_nil] at this
theorem f90 (A K : List MB) (s : RS) (hl : s.bs.length ≤ 1000000000) (ha : s.at_ ≤ s.bs.length) :
    call Try.prog pol1 90 [.rf A.length 1 0 0] (A ++ rdB s :: K) = some (B8 (octR s).1, A ++ rdB (octR s).2 :: K) := by
  have fr : frzArgs pol1 90 0 [.rf A.length 1 0 0] (A ++ rdB s :: K) = some ([.rf A.length 1 0 0], A ++ rdB s :: K) := frzArgs_mix _ _ _ rfl
  refine call_run2 (pol := pol1) Try.func90 rfl rfl rfl rfl fr ?_
  obtain ⟨bs, at_, wr⟩ := s
  simp only at hl ha
  by_cases hw : wr = 0
  · subst hw
    by_cases h1 : at_ < bs.length
    · obtain ⟨c, hc⟩ : ∃ c, bs[at_]? = some c := ⟨_, List.getElem?_eq_getElem h1⟩
      have ho : octR ⟨bs, at_, 0⟩ = (c, ⟨bs, at_ + 1, 0⟩) := by
        simp only [octR]
        rw [if_neg (by simp), if_neg (by omega), List.getD_eq_getElem?_getD, hc]; rfl
      rw [ho]
      simp +contextual (disch := omega) only [Try.f90, dd90, go_sem, ↓reduceIte, List.reduceReplicate, Nat.reduceAdd, Nat.reduceSub, reduceCtorEq, evBin, Nat.reduceLeDiff, Nat.reduceMul, Nat.reduceLT, Nat.reduceEqDiff, Int.reduceBNe, Int.reduceBEq, Int.reduceEq, Int.reduceLT, Int.reduceLE, Int.reduceGT, Int.reduceGE, mu90, Nat.reduceBEq, ↓wrap_up, ↓wrap_down, ↓wrap_pred, ↓wrap_sub_nat, Int.reduceToNat, pre_get, pre_set, hc, List.length_map]
      repeat' (first | intro _ | apply And.intro | (unfold dOk; kernel_rfl) | exact St.beq_refl _ | (show altO _ _ _ _ = true; kernel_rfl) | (show (_ || _) = true; kernel_rfl) | (show (_ && _) = true; kernel_rfl))
      exact ret_rd0 rfl rfl rfl A K ⟨bs, at_, 0⟩ ⟨bs, at_ + 1, 0⟩
    · have ho : octR ⟨bs, at_, 0⟩ = (0, ⟨bs, at_, 3⟩) := by
        simp only [octR]
        rw [if_neg (by simp), if_pos (by omega)]
      rw [ho]
      simp +contextual (disch := omega) only [Try.f90, dd90, go_sem, ↓reduceIte, List.reduceReplicate, Nat.reduceAdd, Nat.reduceSub, reduceCtorEq, evBin, Nat.reduceLeDiff, Nat.reduceMul, Nat.reduceLT, Nat.reduceEqDiff, Int.reduceBNe, Int.reduceBEq, Int.reduceEq, Int.reduceLT, Int.reduceLE, Int.reduceGT, Int.reduceGE, mu90, Nat.reduceBEq, ↓wrap_up, ↓wrap_down, ↓wrap_pred, ↓wrap_sub_nat, Int.reduceToNat, pre_get, pre_set, List.length_map]
      repeat' (first | intro _ | apply And.intro | (unfold dOk; kernel_rfl) | exact St.beq_refl _ | (show altO _ _ _ _ = true; kernel_rfl) | (show (_ || _) = true; kernel_rfl) | (show (_ && _) = true; kernel_rfl))
      exact ret_rd0 rfl rfl rfl A K ⟨bs, at_, 0⟩ ⟨bs, at_, 3⟩
  · have ho : octR ⟨bs, at_, wr⟩ = (0, ⟨bs, at_, wr⟩) := by
      simp only [octR]
      rw [if_pos hw]
    rw [ho]
    simp +contextual (disch := omega) only [Try.f90, dd90, go_sem, ↓reduceIte, List.reduceReplicate, Nat.reduceAdd, Nat.reduceSub, reduceCtorEq, evBin, Nat.reduceLeDiff, Nat.reduceMul, Nat.reduceLT, Nat.reduceEqDiff, Int.reduceBNe, Int.reduceBEq, Int.reduceEq, Int.reduceLT, Int.reduceLE, Int.reduceGT, Int.reduceGE, mu90, Nat.reduceBEq, ↓wrap_up, ↓wrap_down, ↓wrap_pred, ↓wrap_sub_nat, Int.reduceToNat, pre_get, pre_set, hw]
    exact ret_rd0 rfl rfl rfl A K ⟨bs, at_, wr⟩ ⟨bs, at_, wr⟩

theorem and127 {c : Nat} (h : c < 256) : evBin .and .u8 c 127 = some (B8 ((c % 128 : Nat) : Int)) := by
  have key : ∀ m : Fin 256, IntKind.u8.wrap (BitVec.ofInt IntKind.u8.bits ((m.val : Nat) : Int) &&& BitVec.ofInt IntKind.u8.bits 127).toNat = ((m.val % 128 : Nat) : Int) := by decide +kernel
  have := key ⟨c, h⟩
  simp only at this
  simp only [evBin, this]
theorem shl_nat {d k : Nat} (hk : k ≤ 64) (h : d * 2 ^ k < 18446744073709551616) : evShift .shl .u64 d k = some (.int .u64 ((d * 2 ^ k : Nat) : Int)) := by
  simp only [evShift]
  rw [if_neg (by omega), Int.toNat_natCast, show min k IntKind.u64.bits = k from Nat.min_eq_left hk]
  have : (d : Int) * 2 ^ k = ((d * 2 ^ k : Nat) : Int) := by push_cast; rfl
  rw [this, w64_in h]
theorem or_nat {n d k : Nat} (hn : n < 2 ^ k) (h : n + d * 2 ^ k < 18446744073709551616) : evBin .or .u64 n ((d * 2 ^ k : Nat) : Int) = some (.int .u64 ((n + d * 2 ^ k : Nat) : Int)) := by
  have : (BitVec.ofInt IntKind.u64.bits (n : Int) ||| BitVec.ofInt IntKind.u64.bits ((d * 2 ^ k : Nat) : Int)).toNat = n + d * 2 ^ k := by
    show (BitVec.ofInt 64 (n : Int) ||| BitVec.ofInt 64 ((d * 2 ^ k : Nat) : Int)).toNat = _
    rw [BitVec.ofInt_natCast, BitVec.ofInt_natCast, BitVec.toNat_or, BitVec.toNat_ofNat, BitVec.toNat_ofNat, Nat.mod_eq_of_lt (by omega), Nat.mod_eq_of_lt (by omega), Nat.mul_comm d, Nat.or_comm, ← Nat.two_pow_add_eq_or_of_lt hn]
    omega
  simp only [evBin, this, w64_in h]

/-- A reader's state, as it comes up. -/
structure RdOk (s : RS) : Prop where
  len : s.bs.length ≤ 1000000000
  at_ : s.at_ ≤ s.bs.length
  byte : ∀ x ∈ s.bs, 0 ≤ x ∧ x < 256
theorem octR_bs (s : RS) : (octR s).2.bs = s.bs := by unfold octR; split <;> (try split) <;> rfl
theorem octR_ok {s : RS} (h : RdOk s) : RdOk (octR s).2 := by
  have h1 := h.len
  have h2 := h.at_
  refine ⟨by rw [octR_bs]; exact h1, ?_, by rw [octR_bs]; exact h.byte⟩
  unfold octR; split <;> (try split) <;> simp <;> omega
theorem octR_byte {s : RS} (h : RdOk s) : 0 ≤ (octR s).1 ∧ (octR s).1 < 256 := by
  unfold octR
  split
  · simp
  · split
    · simp
    · rename_i h1
      simp only
      have hlt : s.at_ < s.bs.length := by omega
      rw [List.getD_eq_getElem?_getD, List.getElem?_eq_getElem hlt]
      exact h.byte _ (List.getElem_mem hlt)
/-- In the middle of a number: i bytes are read. -/
structure UInv (s0 : RS) (i n : Nat) (s : RS) : Prop where
  he : uintL (10 - i) i n s = uintR s0
  hi : i ≤ 9
  hn : n < 2 ^ (7 * i)
  hok : RdOk s
theorem f128 (A K : List MB) (s : RS) (hs : RdOk s) :
    call Try.prog pol1 128 [.rf A.length 1 0 0] (A ++ rdB s :: K) = some (.int .u64 ((uintR s).1 : Nat), A ++ rdB (uintR s).2 :: K) := by
  have fr : frzArgs pol1 128 0 [.rf A.length 1 0 0] (A ++ rdB s :: K) = some ([.rf A.length 1 0 0], A ++ rdB s :: K) := frzArgs_mix _ _ _ rfl
  refine call_run2 (pol := pol1) Try.func128 rfl rfl rfl rfl fr ?_
  have ret : ∀ (n : Nat) s', retPol pol1 128 (A ++ rdB s :: K) (.int .u64 (n : Nat)) (A ++ rdB s' :: K) = some (.int .u64 (n : Nat), A ++ rdB s' :: K) := fun n s' => ret_rd0 rfl rfl rfl A K s s'
  simp +contextual (disch := omega) only [Try.f128, dd128, go_sem, ↓reduceIte, List.reduceReplicate, Nat.reduceAdd, Nat.reduceSub, reduceCtorEq, evBin, Nat.reduceLeDiff, Nat.reduceMul, Nat.reduceLT, Nat.reduceEqDiff, Int.reduceBNe, Int.reduceBEq, Int.reduceEq, Int.reduceLT, Int.reduceLE, Int.reduceGT, Int.reduceGE, mu128, Nat.reduceBEq, ↓wrap_up, ↓wrap_down, ↓wrap_pred, ↓wrap_sub_nat, Int.reduceToNat]
  refine W_for (σ := Nat × Nat × RS) (M := (mskOf (pol1.mask 128) (pol1.gc 128) (pol1.acts 128) 0 3)) rfl (fun x => (⟨45, [(6, I (x.1 : Nat)), (3, .int .u64 (x.2.1 : Nat)), (0, .rf A.length 1 0 0)], A ++ rdB x.2.2 :: K⟩ : St)) (fun x => UInv s x.1 x.2.1 x.2.2) (fun x => 10 - x.1) (0, 0, s) ?_ ⟨rfl, by omega, by simp, hs⟩ _ rfl
  rintro ⟨i, n, t⟩ ⟨he, hi, hn, ht⟩
  simp only at he hi hn ht ⊢
  have h90 := f90 A K t ht.len ht.at_
  obtain ⟨k, hk⟩ : ∃ k, 10 - i = k + 1 := ⟨9 - i, by omega⟩
  rw [hk, uintL] at he
  have hok := octR_ok ht
  have hby := octR_byte ht
  generalize octR t = o at *
  obtain ⟨c, t⟩ := o
  simp only at he hok hby h90
  obtain ⟨c, rfl⟩ : ∃ d : Nat, c = d := ⟨c.toNat, by omega⟩
  obtain ⟨bs, at_, wr⟩ := t
  simp only [ne_eq, Int.toNat_natCast] at he
  by_cases hw : wr = 0
  · subst hw
    rw [if_neg (by simp)] at he
    by_cases hf : (i = 9 ∧ (1 : Int) < c) ∨ (0 < i ∧ (c : Int) = 0)
    · rw [if_pos hf] at he
      rw [← he]
      rcases hf with ⟨rfl, h1⟩ | ⟨h1, h2⟩
      · simp +contextual (disch := omega) only [Try.f128, dd128, go_sem, ↓reduceIte, List.reduceReplicate, Nat.reduceAdd, Nat.reduceSub, reduceCtorEq, evBin, Nat.reduceLeDiff, Nat.reduceMul, Nat.reduceLT, Nat.reduceEqDiff, Int.reduceBNe, Int.reduceBEq, Int.reduceEq, Int.reduceLT, Int.reduceLE, Int.reduceGT, Int.reduceGE, mu128, Nat.reduceBEq, ↓wrap_up, ↓wrap_down, ↓wrap_pred, ↓wrap_sub_nat, Int.reduceToNat, h90, pre_get, pre_set]
        exact ret 0 ⟨bs, at_, 2⟩
      · obtain rfl : c = 0 := by omega
        by_cases h9 : i = 9
        · subst h9
          simp +contextual (disch := omega) only [Try.f128, dd128, go_sem, ↓reduceIte, List.reduceReplicate, Nat.reduceAdd, Nat.reduceSub, reduceCtorEq, evBin, Nat.reduceLeDiff, Nat.reduceMul, Nat.reduceLT, Nat.reduceEqDiff, Int.reduceBNe, Int.reduceBEq, Int.reduceEq, Int.reduceLT, Int.reduceLE, Int.reduceGT, Int.reduceGE, mu128, Nat.reduceBEq, ↓wrap_up, ↓wrap_down, ↓wrap_pred, ↓wrap_sub_nat, Int.reduceToNat, h90, pre_get, pre_set]
          exact ret 0 ⟨bs, at_, 2⟩
        · simp +contextual (disch := omega) only [Try.f128, dd128, go_sem, ↓reduceIte, List.reduceReplicate, Nat.reduceAdd, Nat.reduceSub, reduceCtorEq, evBin, Nat.reduceLeDiff, Nat.reduceMul, Nat.reduceLT, Nat.reduceEqDiff, Int.reduceBNe, Int.reduceBEq, Int.reduceEq, Int.reduceLT, Int.reduceLE, Int.reduceGT, Int.reduceGE, mu128, Nat.reduceBEq, ↓wrap_up, ↓wrap_down, ↓wrap_pred, ↓wrap_sub_nat, Int.reduceToNat, h90, pre_get, pre_set]
          exact ret 0 ⟨bs, at_, 2⟩
    · rw [if_neg hf] at he
      have hand := and127 (c := c) (by omega)
      have hw64 := w64_in (n := c % 128) (by omega)
      have hw7 : IntKind.i64.wrap (7 * (i : Int)) = ((7 * i : Nat) : Int) := by rw [i64_in] <;> omega
      have hp : 2 ^ (7 * i) ≤ 9223372036854775808 := by
        have h := Nat.pow_le_pow_right (n := 2) (Nat.succ_pos 1) (show 7 * i ≤ 63 by omega)
        simpa using h
      have hd : (c % 128) * 2 ^ (7 * i) + 2 ^ (7 * i) ≤ 18446744073709551616 := by
        by_cases h9 : i = 9
        · subst h9
          have : c ≤ 1 := by omega
          have hc : c % 128 = c := by omega
          rw [hc]
          have h2 : 2 ^ (7 * 9) = 9223372036854775808 := by simp
          rw [h2]
          omega
        · have hp2 : 2 ^ (7 * i) ≤ 72057594037927936 := by
            have h := Nat.pow_le_pow_right (n := 2) (Nat.succ_pos 1) (show 7 * i ≤ 56 by omega)
            simpa using h
          have : (c % 128) * 2 ^ (7 * i) ≤ 127 * 2 ^ (7 * i) := Nat.mul_le_mul_right _ (by omega)
          omega
      have hshl := shl_nat (d := c % 128) (k := 7 * i) (by omega) (by omega)
      have hor := or_nat (n := n) (d := c % 128) (k := 7 * i) hn (by omega)
      by_cases h9 : i = 9
      · subst h9
        have h1 : ¬ (1 : Int) < c := by omega
        rw [if_pos (by omega)] at he
        rw [← he]
        simp +contextual (disch := omega) only [Try.f128, dd128, go_sem, ↓reduceIte, List.reduceReplicate, Nat.reduceAdd, Nat.reduceSub, reduceCtorEq, Nat.reduceLeDiff, Nat.reduceMul, Nat.reduceLT, Nat.reduceEqDiff, Int.reduceBNe, Int.reduceBEq, Int.reduceEq, Int.reduceLT, Int.reduceLE, Int.reduceGT, Int.reduceGE, mu128, Nat.reduceBEq, ↓wrap_up, ↓wrap_down, ↓wrap_pred, ↓wrap_sub_nat, Int.reduceToNat, evB_eql, evB_neq, evB_gtr, evB_lss, evB_mul, h90, pre_get, pre_set, hand, hw64, hw7, hshl, hor]
        exact ret _ ⟨bs, at_, 0⟩
      · by_cases hc : c < 128
        · rw [if_pos (by omega)] at he
          rw [← he]
          simp +contextual (disch := omega) only [Try.f128, dd128, go_sem, ↓reduceIte, List.reduceReplicate, Nat.reduceAdd, Nat.reduceSub, reduceCtorEq, Nat.reduceLeDiff, Nat.reduceMul, Nat.reduceLT, Nat.reduceEqDiff, Int.reduceBNe, Int.reduceBEq, Int.reduceEq, Int.reduceLT, Int.reduceLE, Int.reduceGT, Int.reduceGE, mu128, Nat.reduceBEq, ↓wrap_up, ↓wrap_down, ↓wrap_pred, ↓wrap_sub_nat, Int.reduceToNat, evB_eql, evB_neq, evB_gtr, evB_lss, evB_mul, h90, pre_get, pre_set, hand, hw64, hw7, hshl, hor]
          exact ⟨fun _ => ret _ ⟨bs, at_, 0⟩, fun _ => ret _ ⟨bs, at_, 0⟩⟩
        · rw [if_neg (by omega)] at he
          have hnx : n + c % 128 * 2 ^ (7 * i) < 2 ^ (7 * (i + 1)) := by
            have : (c % 128) * 2 ^ (7 * i) ≤ 127 * 2 ^ (7 * i) := Nat.mul_le_mul_right _ (by omega)
            rw [show 7 * (i + 1) = 7 * i + 7 by omega, Nat.pow_add]
            omega
          rw [show k = 10 - (i + 1) by omega] at he
          by_cases h0 : 0 < i
          · have hc0 : ¬ (c : Int) = 0 := by omega
            simp +contextual (disch := omega) only [Try.f128, dd128, go_sem, ↓reduceIte, List.reduceReplicate, Nat.reduceAdd, Nat.reduceSub, reduceCtorEq, Nat.reduceLeDiff, Nat.reduceMul, Nat.reduceLT, Nat.reduceEqDiff, Int.reduceBNe, Int.reduceBEq, Int.reduceEq, Int.reduceLT, Int.reduceLE, Int.reduceGT, Int.reduceGE, mu128, Nat.reduceBEq, ↓wrap_up, ↓wrap_down, ↓wrap_pred, ↓wrap_sub_nat, Int.reduceToNat, evB_eql, evB_neq, evB_gtr, evB_lss, evB_mul, evB_add, h90, pre_get, pre_set, hand, hw64, hw7, hshl, hor]
            exact ⟨(i + 1, n + c % 128 * 2 ^ (7 * i), ⟨bs, at_, 0⟩), ⟨he, by omega, hnx, hok⟩, by show 10 - (i + 1) < 10 - i; omega, rfl⟩
          · simp +contextual (disch := omega) only [Try.f128, dd128, go_sem, ↓reduceIte, List.reduceReplicate, Nat.reduceAdd, Nat.reduceSub, reduceCtorEq, Nat.reduceLeDiff, Nat.reduceMul, Nat.reduceLT, Nat.reduceEqDiff, Int.reduceBNe, Int.reduceBEq, Int.reduceEq, Int.reduceLT, Int.reduceLE, Int.reduceGT, Int.reduceGE, mu128, Nat.reduceBEq, ↓wrap_up, ↓wrap_down, ↓wrap_pred, ↓wrap_sub_nat, Int.reduceToNat, evB_eql, evB_neq, evB_gtr, evB_lss, evB_mul, evB_add, h90, pre_get, pre_set, hand, hw64, hw7, hshl, hor]
            exact ⟨(i + 1, n + c % 128 * 2 ^ (7 * i), ⟨bs, at_, 0⟩), ⟨he, by omega, hnx, hok⟩, by show 10 - (i + 1) < 10 - i; omega, rfl⟩
  · rw [if_pos hw] at he
    rw [← he]
    simp +contextual (disch := omega) only [Try.f128, dd128, go_sem, ↓reduceIte, List.reduceReplicate, Nat.reduceAdd, Nat.reduceSub, reduceCtorEq, evBin, Nat.reduceLeDiff, Nat.reduceMul, Nat.reduceLT, Nat.reduceEqDiff, Int.reduceBNe, Int.reduceBEq, Int.reduceEq, Int.reduceLT, Int.reduceLE, Int.reduceGT, Int.reduceGE, mu128, Nat.reduceBEq, ↓wrap_up, ↓wrap_down, ↓wrap_pred, ↓wrap_sub_nat, Int.reduceToNat, h90, pre_get, pre_set]
    exact ret 0 ⟨bs, at_, wr⟩
end
section
attribute [local go_sem] tySzE List.head?_drop Nat.mul_one sameAt_zero sameAt_two sameAt_three sameAt_four sameAt_five room_ok ty5 ty71 ty76 ty145 ty147 ty157 ty183
open Go.Proofs Go.RowKit Go.IntWalk
set_option maxRecDepth 100000
set_option linter.unusedSimpArgs false
set_option linter.unusedVariables false
set_option maxHeartbeats 8000000

theorem and1 {u : Nat} (h : u < 18446744073709551616) : evBin .and .u64 u 1 = some (.int .u64 ((u % 2 : Nat) : Int)) := by
  have : (BitVec.ofInt IntKind.u64.bits (u : Int) &&& BitVec.ofInt IntKind.u64.bits 1).toNat = u % 2 := by
    show (BitVec.ofInt 64 (u : Int) &&& BitVec.ofInt 64 1).toNat = _
    rw [show BitVec.ofInt 64 1 = 1#64 from rfl, BitVec.ofInt_natCast, BitVec.toNat_and, BitVec.toNat_ofNat, Nat.mod_eq_of_lt (by omega)]
    exact Nat.and_one_is_mod u
  simp only [evBin, this]
  rw [w64_in (by omega)]
theorem shr1 (u : Nat) : evShift .shr .u64 u 1 = some (.int .u64 ((u / 2 : Nat) : Int)) := by
  simp only [evShift]
  simp
  rw [Int.fdiv_eq_ediv_of_nonneg _ (by decide)]
  rfl
theorem unz_ev {u : Nat} (h : u < 18446744073709551616) :
    evBin .xor .i64 (IntKind.i64.wrap ((u / 2 : Nat) : Int)) (IntKind.i64.wrap (0 - IntKind.i64.wrap ((u % 2 : Nat) : Int))) = some (I (unz u)) := by
  rw [i64_in ((u / 2 : Nat) : Int) (by omega), i64_in ((u % 2 : Nat) : Int) (by omega), i64_in (0 - ((u % 2 : Nat) : Int)) (by omega)]
  unfold unz
  by_cases h1 : u % 2 = 1
  · rw [if_pos h1, h1]
    have : (BitVec.ofInt IntKind.i64.bits ((u / 2 : Nat) : Int) ^^^ BitVec.ofInt IntKind.i64.bits (0 - ((1 : Nat) : Int))).toNat = 18446744073709551615 - u / 2 := by
      show (BitVec.ofInt 64 ((u / 2 : Nat) : Int) ^^^ BitVec.ofInt 64 (0 - ((1 : Nat) : Int))).toNat = _
      rw [show BitVec.ofInt 64 (0 - ((1 : Nat) : Int)) = BitVec.allOnes 64 from rfl, BitVec.xor_allOnes, BitVec.toNat_not, BitVec.ofInt_natCast, BitVec.toNat_ofNat]
      omega
    simp only [evBin, this]
    have e : IntKind.i64.wrap ((18446744073709551615 - u / 2 : Nat) : Int) = -((u / 2 : Nat) : Int) - 1 := by rw [IntKind.wrap_i64]; omega
    rw [e]
  · have h0 : u % 2 = 0 := by omega
    rw [if_neg h1, h0]
    have : (BitVec.ofInt IntKind.i64.bits ((u / 2 : Nat) : Int) ^^^ BitVec.ofInt IntKind.i64.bits (0 - ((0 : Nat) : Int))).toNat = u / 2 := by
      show (BitVec.ofInt 64 ((u / 2 : Nat) : Int) ^^^ BitVec.ofInt 64 (0 - ((0 : Nat) : Int))).toNat = _
      rw [show BitVec.ofInt 64 (0 - ((0 : Nat) : Int)) = 0#64 from rfl, BitVec.xor_zero, BitVec.ofInt_natCast, BitVec.toNat_ofNat]
      omega
    simp only [evBin, this]
    rw [i64_in _ (by omega)]
theorem unz_ev2 {u : Nat} (h : u < 18446744073709551616) : evBin .xor .i64 ((u / 2 : Nat) : Int) (0 - ((u % 2 : Nat) : Int)) = some (I (unz u)) := by
  have := unz_ev h
  rwa [i64_in ((u / 2 : Nat) : Int) (by omega), i64_in ((u % 2 : Nat) : Int) (by omega), i64_in (0 - ((u % 2 : Nat) : Int)) (by omega)] at this
theorem uintL_bs : ∀ (k i n : Nat) (s : RS), (uintL k i n s).2.bs = s.bs
  | 0, _, _, _ => rfl
  | k + 1, i, n, s => by
    unfold uintL
    simp only
    split
    · exact octR_bs s
    · split
      · exact octR_bs s
      · split
        · exact octR_bs s
        · rw [uintL_bs k]; exact octR_bs s
theorem uintL_at : ∀ (k i n : Nat) (s : RS), RdOk s → RdOk (uintL k i n s).2
  | 0, _, _, _, h => h
  | k + 1, i, n, s, h => by
    have h1 := octR_ok h
    unfold uintL
    simp only
    split
    · exact h1
    · split
      · exact ⟨h1.len, h1.at_, h1.byte⟩
      · split
        · exact h1
        · exact uintL_at k _ _ _ h1
theorem uintR_ok {s : RS} (h : RdOk s) : RdOk (uintR s).2 := uintL_at _ _ _ _ h
theorem uintL_lt : ∀ (k i n : Nat) (s : RS), RdOk s → i + k = 10 → n < 2 ^ (7 * i) → (k = 0 → n < 18446744073709551616) → (uintL k i n s).1 < 18446744073709551616
  | 0, _, _, _, _, _, _, h => h rfl
  | k + 1, i, n, s, h, hk, hn, _ => by
    have h1 := octR_ok h
    have h2 := octR_byte h
    have hp : 2 ^ (7 * i) ≤ 9223372036854775808 := by
      have h := Nat.pow_le_pow_right (n := 2) (Nat.succ_pos 1) (show 7 * i ≤ 63 by omega)
      simpa using h
    unfold uintL
    simp only
    split
    · simp
    · split
      · simp
      · rename_i hf
        have hd : ((octR s).1.toNat % 128) * 2 ^ (7 * i) + 2 ^ (7 * i) ≤ 18446744073709551616 := by
          by_cases h9 : i = 9
          · subst h9
            have h2 : 2 ^ (7 * 9) = 9223372036854775808 := by simp
            rw [h2]
            omega
          · have hp2 : 2 ^ (7 * i) ≤ 72057594037927936 := by
              have h := Nat.pow_le_pow_right (n := 2) (Nat.succ_pos 1) (show 7 * i ≤ 56 by omega)
              simpa using h
            have : ((octR s).1.toNat % 128) * 2 ^ (7 * i) ≤ 127 * 2 ^ (7 * i) := Nat.mul_le_mul_right _ (by omega)
            omega
        split
        · simp only; omega
        · refine uintL_lt k (i + 1) _ _ h1 (by omega) ?_ (fun _ => by omega)
          have : ((octR s).1.toNat % 128) * 2 ^ (7 * i) ≤ 127 * 2 ^ (7 * i) := Nat.mul_le_mul_right _ (by omega)
          rw [show 7 * (i + 1) = 7 * i + 7 by omega, Nat.pow_add]
          omega
theorem uintR_lt {s : RS} (h : RdOk s) : (uintR s).1 < 18446744073709551616 := uintL_lt 10 0 0 s h rfl (by simp) (fun h => by omega)
theorem f85 (A K : List MB) (s : RS) (hs : RdOk s) :
    call Try.prog pol1 85 [.rf A.length 1 0 0] (A ++ rdB s :: K) = some (I (intR s).1, A ++ rdB (intR s).2 :: K) := by
  have fr : frzArgs pol1 85 0 [.rf A.length 1 0 0] (A ++ rdB s :: K) = some ([.rf A.length 1 0 0], A ++ rdB s :: K) := frzArgs_mix _ _ _ rfl
  refine call_run2 (pol := pol1) Try.func85 rfl rfl rfl rfl fr ?_
  have h1 := f128 A K s hs
  have h2 := uintR_lt hs
  have e1 := and1 h2
  have e2 := shr1 (uintR s).1
  have e3 := unz_ev2 h2
  simp +contextual (disch := omega) only [Try.f85, dd85, go_sem, ↓reduceIte, evAppend, List.reduceReplicate, Nat.reduceAdd, Nat.reduceSub, reduceCtorEq, Nat.reduceLeDiff, Nat.reduceMul, Nat.reduceLT, Nat.reduceEqDiff, Int.reduceBNe, Int.reduceBEq, frzB, Int.reduceEq, Int.reduceLT, Int.reduceLE, Int.reduceGT, Int.reduceGE, List.map_append, mu85, Nat.reduceBEq, ↓wrap_up, ↓wrap_down, ↓wrap_pred, ↓wrap_sub_nat, Int.reduceToNat, h1, e1, e2, e3]
  exact ret_rd0 (f := 85) (r := I (unz (uintR s).1)) rfl rfl rfl A K s (uintR s).2
theorem f86 (A K : List MB) (s : RS) (hs : RdOk s) :
    call Try.prog pol1 86 [.rf A.length 1 0 0] (A ++ rdB s :: K) = some (.bool (boolR s).1, A ++ rdB (boolR s).2 :: K) := by
  have fr : frzArgs pol1 86 0 [.rf A.length 1 0 0] (A ++ rdB s :: K) = some ([.rf A.length 1 0 0], A ++ rdB s :: K) := frzArgs_mix _ _ _ rfl
  refine call_run2 (pol := pol1) Try.func86 rfl rfl rfl rfl fr ?_
  have h1 := f90 A K s hs.len hs.at_
  unfold boolR
  generalize octR s = o at *
  obtain ⟨c, bs, at_, wr⟩ := o
  simp only at h1 ⊢
  by_cases h : 1 < c
  · rw [if_pos h]
    simp +contextual (disch := omega) only [Try.f86, dd86, go_sem, ↓reduceIte, evAppend, List.reduceReplicate, Nat.reduceAdd, Nat.reduceSub, reduceCtorEq, evBin, Nat.reduceLeDiff, Nat.reduceMul, Nat.reduceLT, Nat.reduceEqDiff, Int.reduceBNe, Int.reduceBEq, frzB, Int.reduceEq, Int.reduceLT, Int.reduceLE, Int.reduceGT, Int.reduceGE, List.map_append, mu86, Nat.reduceBEq, ↓wrap_up, ↓wrap_down, ↓wrap_pred, ↓wrap_sub_nat, Int.reduceToNat, h1, pre_get, pre_set]
    exact ret_rd0 (r := .bool false) rfl rfl rfl A K s ⟨bs, at_, 2⟩
  · rw [if_neg h]
    simp +contextual (disch := omega) only [Try.f86, dd86, go_sem, ↓reduceIte, evAppend, List.reduceReplicate, Nat.reduceAdd, Nat.reduceSub, reduceCtorEq, evBin, Nat.reduceLeDiff, Nat.reduceMul, Nat.reduceLT, Nat.reduceEqDiff, Int.reduceBNe, Int.reduceBEq, frzB, Int.reduceEq, Int.reduceLT, Int.reduceLE, Int.reduceGT, Int.reduceGE, List.map_append, mu86, Nat.reduceBEq, ↓wrap_up, ↓wrap_down, ↓wrap_pred, ↓wrap_sub_nat, Int.reduceToNat, h1, pre_get, pre_set]
    exact ret_rd0 (r := .bool (c == 1)) rfl rfl rfl A K s ⟨bs, at_, wr⟩
theorem f88 (A K : List MB) (s : RS) (hs : RdOk s) :
    call Try.prog pol1 88 [.rf A.length 1 0 0] (A ++ rdB s :: K) = some (I (endR s), A ++ rdB s :: K) := by
  have fr : frzArgs pol1 88 0 [.rf A.length 1 0 0] (A ++ rdB s :: K) = some ([.rf A.length 1 0 0], A ++ rdB s :: K) := frzArgs_mix _ _ _ rfl
  refine call_run2 (pol := pol1) Try.func88 rfl rfl rfl rfl fr ?_
  have ret := fun (n : Int) => ret_rd0 (f := 88) rfl rfl (r := I n) rfl A K s s
  obtain ⟨bs, at_, wr⟩ := s
  have hl := hs.len
  simp only at hl
  unfold endR
  simp only
  by_cases h : wr = 0
  · subst h
    rw [if_neg (by simp)]
    by_cases h2 : at_ < bs.length
    · rw [if_pos h2]
      simp +contextual (disch := omega) only [Try.f88, dd88, go_sem, ↓reduceIte, evAppend, List.reduceReplicate, Nat.reduceAdd, Nat.reduceSub, reduceCtorEq, evBin, Nat.reduceLeDiff, Nat.reduceMul, Nat.reduceLT, Nat.reduceEqDiff, Int.reduceBNe, Int.reduceBEq, frzB, Int.reduceEq, Int.reduceLT, Int.reduceLE, Int.reduceGT, Int.reduceGE, List.map_append, mu88, Nat.reduceBEq, ↓wrap_up, ↓wrap_down, ↓wrap_pred, ↓wrap_sub_nat, Int.reduceToNat, pre_get, pre_set, List.length_map]
      repeat' (first | intro _ | apply And.intro | (unfold dOk; kernel_rfl) | exact St.beq_refl _ | (show altO _ _ _ _ = true; kernel_rfl) | (show (_ || _) = true; kernel_rfl) | (show (_ && _) = true; kernel_rfl))
      exact ret _
    · rw [if_neg h2]
      simp +contextual (disch := omega) only [Try.f88, dd88, go_sem, ↓reduceIte, evAppend, List.reduceReplicate, Nat.reduceAdd, Nat.reduceSub, reduceCtorEq, evBin, Nat.reduceLeDiff, Nat.reduceMul, Nat.reduceLT, Nat.reduceEqDiff, Int.reduceBNe, Int.reduceBEq, frzB, Int.reduceEq, Int.reduceLT, Int.reduceLE, Int.reduceGT, Int.reduceGE, List.map_append, mu88, Nat.reduceBEq, ↓wrap_up, ↓wrap_down, ↓wrap_pred, ↓wrap_sub_nat, Int.reduceToNat, pre_get, pre_set, List.length_map]
      repeat' (first | intro _ | apply And.intro | (unfold dOk; kernel_rfl) | exact St.beq_refl _ | (show altO _ _ _ _ = true; kernel_rfl) | (show (_ || _) = true; kernel_rfl) | (show (_ && _) = true; kernel_rfl))
      exact ret _
  · rw [if_pos h]
    simp +contextual (disch := omega) only [Try.f88, dd88, go_sem, ↓reduceIte, evAppend, List.reduceReplicate, Nat.reduceAdd, Nat.reduceSub, reduceCtorEq, evBin, Nat.reduceLeDiff, Nat.reduceMul, Nat.reduceLT, Nat.reduceEqDiff, Int.reduceBNe, Int.reduceBEq, frzB, Int.reduceEq, Int.reduceLT, Int.reduceLE, Int.reduceGT, Int.reduceGE, List.map_append, mu88, Nat.reduceBEq, ↓wrap_up, ↓wrap_down, ↓wrap_pred, ↓wrap_sub_nat, Int.reduceToNat, pre_get, pre_set]
    exact ret _

theorem boolR_ok {s : RS} (h : RdOk s) : RdOk (boolR s).2 := by
  have h1 := octR_ok h
  unfold boolR
  simp only
  split
  · exact ⟨h1.len, h1.at_, h1.byte⟩
  · exact h1
theorem rawR_ok {s : RS} (h : RdOk s) : RdOk (rawR s).2 := by
  have h1 := uintR_ok h
  unfold rawR
  simp only
  split
  · exact h1
  · split
    · exact ⟨h1.len, h1.at_, h1.byte⟩
    · refine ⟨h1.len, ?_, h1.byte⟩
      have := h1.at_
      simp only
      omega
theorem rawR_len {s : RS} (h : RdOk s) : (rawR s).1.length ≤ s.bs.length ∧ ∀ x ∈ (rawR s).1, 0 ≤ x ∧ x < 256 := by
  have h1 := uintR_ok h
  have h2 : (uintR s).2.bs = s.bs := uintL_bs _ _ _ _
  unfold rawR
  simp only
  split
  · exact ⟨by simp, fun x h => by simp at h⟩
  · split
    · exact ⟨by simp, fun x h => by simp at h⟩
    · refine ⟨by simp only [List.length_take, List.length_drop, h2]; omega, fun x hx => ?_⟩
      exact h1.byte x (List.mem_of_mem_drop (List.mem_of_mem_take hx))
theorem ret_rdms {f : Nat} (hk : pol1.keep f = false) (ho : pol1.own f = false) (A K : List MB) (s s' : RS) (Y : List Int) (n : Nat) (hn : Y.length = n) :
    retPol pol1 f (A ++ rdB s :: K) (.ms (A.length + (K.length + 1)) 1 n 0 n) (A ++ rdB s' :: (K ++ [.row 1 (Y.map B8) 0])) = some (.sl false (Y.map B8), A ++ rdB s' :: K) := by
  subst hn
  have hget : ∀ v, (A ++ rdB s' :: (K ++ [v]))[A.length + (K.length + 1)]? = some v := fun v => by
    rw [List.getElem?_append_right (by omega)]; simp
  have hset : ∀ u v, (A ++ rdB s' :: (K ++ [u])).set (A.length + (K.length + 1)) v = A ++ rdB s' :: (K ++ [v]) := fun u v => by
    rw [List.set_append_right _ _ (by omega)]; simp
  have hr : getRow (A ++ rdB s' :: (K ++ [.row 1 (Y.map B8) 0])) (A.length + (K.length + 1)) = some (1, Y.map B8, 0) := by unfold getRow; rw [hget]
  have h1 : fz (.ms (A.length + (K.length + 1)) 1 Y.length 0 Y.length) (A ++ rdB s' :: (K ++ [.row 1 (Y.map B8) 0])) = some (.sl false (Y.map B8), A ++ rdB s' :: (K ++ [.row 1 (Y.map B8) Y.length])) := by
    rw [fz_row hr (by rw [List.length_map]) (plain_bytes Y)]
    unfold mark
    rw [hr]
    simp only [hset]
    simp
  have h2 := keptOk_pre (A ++ rdB s :: K).length (rdB s) (rdB s') K [.row 1 (Y.map B8) Y.length] (by simp [MB.under, AV.underL, AV.under, underL_plain, plain_bytes]) A
  have h3 := take_pre (rdB s) (rdB s') K [.row 1 (Y.map B8) Y.length] A
  unfold retPol
  simp only [hk, ho, Bool.false_eq_true, if_false, h1, AV.under, underL_plain _ _ (plain_bytes Y), h2, and_self, if_true, h3]
theorem f89 (A K : List MB) (s : RS) (hs : RdOk s) :
    call Try.prog pol1 89 [.rf A.length 1 0 0, .clb 90 [.rf A.length 1 0 0]] (A ++ rdB s :: K) = some (.sl false ((rawR s).1.map B8), A ++ rdB (rawR s).2 :: K) := by
  have fr : frzArgs pol1 89 0 [.rf A.length 1 0 0, .clb 90 [.rf A.length 1 0 0]] (A ++ rdB s :: K) = some ([.rf A.length 1 0 0, .clb 90 [.rf A.length 1 0 0]], A ++ rdB s :: K) := frzArgs_mix _ _ _ rfl
  refine call_run2 (pol := pol1) Try.func89 rfl rfl rfl rfl fr ?_
  have h1 := f128 A K s hs
  have ho := uintR_ok hs
  have hlt := uintR_lt hs
  unfold rawR
  generalize uintR s = o at *
  obtain ⟨n, bs, at_, wr⟩ := o
  simp only at h1 ho hlt ⊢
  have hl := ho.len
  have ha := ho.at_
  simp only at hl ha
  by_cases hw : wr = 0
  · subst hw
    rw [if_neg (by simp)]
    have e1 : IntKind.u64.wrap ((bs.length - at_ : Nat) : Int) = ((bs.length - at_ : Nat) : Int) := w64_in (by omega)
    by_cases hn : bs.length - at_ < n
    · rw [if_pos hn]
      simp +contextual (disch := omega) only [Try.f89, dd89, go_sem, ↓reduceIte, evAppend, List.reduceReplicate, Nat.reduceAdd, Nat.reduceSub, reduceCtorEq, evBin, Nat.reduceLeDiff, Nat.reduceMul, Nat.reduceLT, Nat.reduceEqDiff, Int.reduceBNe, Int.reduceBEq, frzB, Int.reduceEq, Int.reduceLT, Int.reduceLE, Int.reduceGT, Int.reduceGE, List.map_append, mu89, Nat.reduceBEq, ↓wrap_up, ↓wrap_down, ↓wrap_pred, ↓wrap_sub_nat, Int.reduceToNat, h1, pre_get, pre_set, List.length_map, e1]
      repeat' (first | intro _ | apply And.intro | (unfold dOk; kernel_rfl) | exact St.beq_refl _ | (show altO _ _ _ _ = true; kernel_rfl) | (show (_ || _) = true; kernel_rfl) | (show (_ && _) = true; kernel_rfl))
      exact ret_rd0 (f := 89) (r := .sl false []) rfl rfl rfl A K s ⟨bs, at_, 3⟩
    · rw [if_neg hn]
      have hroom := room_ok (n := n) (b := 1) (by omega) (by omega)
      have wl : ∀ j : Nat, j < n → IntKind.u64.wrap ((j : Int) + 1) = ((j + 1 : Nat) : Int) := fun j hj => by
        rw [show (j : Int) + 1 = ((j + 1 : Nat) : Int) by omega]; exact w64_in (by omega)
      simp +contextual (disch := omega) only [Try.f89, dd89, go_sem, ↓reduceIte, evAppend, List.reduceReplicate, Nat.reduceAdd, Nat.reduceSub, reduceCtorEq, evBin, Nat.reduceLeDiff, Nat.reduceMul, Nat.reduceLT, Nat.reduceEqDiff, Int.reduceBNe, Int.reduceBEq, frzB, Int.reduceEq, Int.reduceLT, Int.reduceLE, Int.reduceGT, Int.reduceGE, List.map_append, mu89, Nat.reduceBEq, ↓wrap_up, ↓wrap_down, ↓wrap_pred, ↓wrap_sub_nat, Int.reduceToNat, h1, pre_get, pre_set, List.length_map, e1, hroom]
      refine ⟨by unfold dOk; kernel_rfl, ?_⟩
      refine W_count (M := ⟨some [33, 32, 6, 1, 0], none, []⟩) rfl n (fun j => (⟨47, [(33, .int .u64 (j : Nat)), (32, .int .u64 (n : Nat)), (6, .ms (A.length + (K.length + 1)) 1 j 0 j), (1, .clb 90 [.rf A.length 1 0 0]), (0, .rf A.length 1 0 0)], A ++ rdB ⟨bs, at_ + j, 0⟩ :: (K ++ [.row 1 (((bs.drop at_).take j).map B8) 0])⟩ : St)) (fun _ => True) ?_ ?_ trivial _ ?_
      · intro j hj _
        obtain ⟨c, hc⟩ : ∃ c, bs[at_ + j]? = some c := ⟨_, List.getElem?_eq_getElem (by omega)⟩
        have ho : octR ⟨bs, at_ + j, 0⟩ = (c, ⟨bs, at_ + (j + 1), 0⟩) := by
          simp only [octR]
          rw [if_neg (by simp), if_neg (by omega), List.getD_eq_getElem?_getD, hc]; rfl
        have h90 := f90 A (K ++ [.row 1 (((bs.drop at_).take j).map B8) 0]) ⟨bs, at_ + j, 0⟩ hl (by simp only; omega)
        rw [ho] at h90
        have htk : (bs.drop at_).take (j + 1) = (bs.drop at_).take j ++ [c] := by
          rw [List.take_add_one, List.getElem?_drop, hc]; rfl
        have htl : ((bs.drop at_).take j).length = j := by rw [List.length_take, List.length_drop]; omega
        rw [htk]
        generalize (bs.drop at_).take j = Y at *
        have hget : (A ++ rdB ⟨bs, at_ + (j + 1), 0⟩ :: (K ++ [.row 1 (Y.map B8) 0]))[A.length + (K.length + 1)]? = some (.row 1 (Y.map B8) 0) := by
          rw [List.getElem?_append_right (by omega)]; simp
        have happ := app_b1 (H := A ++ rdB ⟨bs, at_ + (j + 1), 0⟩ :: (K ++ [.row 1 (Y.map B8) 0])) (i := A.length + (K.length + 1)) (n := j) (z := 0) (bs := Y) (c := c) (t := true) (by unfold getRow; rw [hget]) htl (Nat.zero_le _) (by omega)
        have hset : ∀ v, (A ++ rdB ⟨bs, at_ + (j + 1), 0⟩ :: (K ++ [.row 1 (Y.map B8) 0])).set (A.length + (K.length + 1)) v = A ++ rdB ⟨bs, at_ + (j + 1), 0⟩ :: (K ++ [v]) := fun v => by
          rw [List.set_append_right _ _ (by omega)]; simp
        rw [hset] at happ
        have hwl := wl j hj
        simp +contextual (disch := omega) only [Try.f89, dd89, go_sem, ↓reduceIte, List.reduceReplicate, Nat.reduceAdd, Nat.reduceSub, reduceCtorEq, evBin, Nat.reduceLeDiff, Nat.reduceMul, Nat.reduceLT, Nat.reduceEqDiff, Int.reduceBNe, Int.reduceBEq, frzB, Int.reduceEq, Int.reduceLT, Int.reduceLE, Int.reduceGT, Int.reduceGE, mu89, Nat.reduceBEq, ↓wrap_up, ↓wrap_down, ↓wrap_pred, ↓wrap_sub_nat, Int.reduceToNat, ty5, h90, happ, pre_get, pre_set, hwl]
        rfl
      · intro _
        simp +contextual (disch := omega) only [Try.f89, dd89, go_sem, ↓reduceIte, List.reduceReplicate, Nat.reduceAdd, Nat.reduceSub, reduceCtorEq, evBin, Nat.reduceLeDiff, Nat.reduceMul, Nat.reduceLT, Nat.reduceEqDiff, Int.reduceBNe, Int.reduceBEq, frzB, Int.reduceEq, Int.reduceLT, Int.reduceLE, Int.reduceGT, Int.reduceGE, mu89, Nat.reduceBEq, ↓wrap_up, ↓wrap_down, ↓wrap_pred, ↓wrap_sub_nat, Int.reduceToNat]
        exact ret_rdms (f := 89) rfl rfl A K s ⟨bs, at_ + n, 0⟩ ((bs.drop at_).take n) n (by rw [List.length_take, List.length_drop]; omega)
      · rw [List.append_assoc]
        rfl
  · rw [if_pos hw]
    simp +contextual (disch := omega) only [Try.f89, dd89, go_sem, ↓reduceIte, evAppend, List.reduceReplicate, Nat.reduceAdd, Nat.reduceSub, reduceCtorEq, evBin, Nat.reduceLeDiff, Nat.reduceMul, Nat.reduceLT, Nat.reduceEqDiff, Int.reduceBNe, Int.reduceBEq, frzB, Int.reduceEq, Int.reduceLT, Int.reduceLE, Int.reduceGT, Int.reduceGE, List.map_append, mu89, Nat.reduceBEq, ↓wrap_up, ↓wrap_down, ↓wrap_pred, ↓wrap_sub_nat, Int.reduceToNat, h1, pre_get, pre_set]
    exact ret_rd0 (f := 89) (r := .sl false []) rfl rfl rfl A K s ⟨bs, at_, wr⟩
theorem f40 (A K : List MB) (s : RS) (hs : RdOk s) :
    call Try.prog pol1 40 [.rf A.length 1 0 0] (A ++ rdB s :: K) = some (.sl false ((rawR s).1.map B8), A ++ rdB (rawR s).2 :: K) := by
  have fr : frzArgs pol1 40 0 [.rf A.length 1 0 0] (A ++ rdB s :: K) = some ([.rf A.length 1 0 0], A ++ rdB s :: K) := frzArgs_mix _ _ _ rfl
  refine call_run2 (pol := pol1) Try.func40 rfl rfl rfl rfl fr ?_
  have h1 := f89 A K s hs
  simp +contextual (disch := omega) only [Try.f40, dd40, go_sem, ↓reduceIte, evAppend, List.reduceReplicate, Nat.reduceAdd, Nat.reduceSub, reduceCtorEq, evBin, Nat.reduceLeDiff, Nat.reduceMul, Nat.reduceLT, Nat.reduceEqDiff, Int.reduceBNe, Int.reduceBEq, frzB, Int.reduceEq, Int.reduceLT, Int.reduceLE, Int.reduceGT, Int.reduceGE, List.map_append, mu40, Nat.reduceBEq, ↓wrap_up, ↓wrap_down, ↓wrap_pred, ↓wrap_sub_nat, Int.reduceToNat, h1, List.map_nil]
  exact ret_rd0 (f := 40) (r := .sl false ((rawR s).1.map B8)) rfl rfl (by simp [AV.plain, plain_bytes]) A K s (rawR s).2
theorem f35 (A : List MB) (bs : List Int) (n : Nat) (hn : bs.length = n) (h0 : bs ≠ []) (hl : n ≤ 1000000000) :
    call Try.prog pol1 35 [.sl false (bs.map B8)] A = some (.rf (A.length + 1) 1 0 0, A ++ [.row 1 (bs.map B8) n, rdB ⟨bs, 0, 0⟩]) := by
  have fr : frzArgs pol1 35 0 [.sl false (bs.map B8)] A = some ([.sl false (bs.map B8)], A) := frzArgs_mix _ _ _ (by simp [mixOk, AV.plain, plain_bytes])
  refine call_run2 (pol := pol1) Try.func35 rfl rfl rfl rfl fr ?_
  have rp : ∀ H1 r H, retPol pol1 35 H1 r H = some (r, H) := fun H1 r H => rfl
  have happ := app_new (H := A) (x := .sl false (bs.map B8)) rfl h0 hn (by omega)
  have hgA : ∀ u v : MB, (A ++ [u] ++ [v])[A.length + 1]? = some v := fun u v => by
    rw [List.append_assoc, List.getElem?_append_right (by omega)]; simp
  have hgB : ∀ u v : MB, (A ++ [u] ++ [v])[A.length]? = some u := fun u v => by
    rw [List.append_assoc, List.getElem?_append_right (by omega)]; simp
  have hsA : ∀ u v w : MB, (A ++ [u] ++ [v]).set (A.length + 1) w = A ++ [u] ++ [w] := fun u v w => by
    rw [List.append_assoc, List.set_append_right _ _ (by omega)]; simp
  have hsB : ∀ u v w : MB, (A ++ [u] ++ [v]).set A.length w = A ++ [w] ++ [v] := fun u v w => by
    rw [List.append_assoc, List.set_append_right _ _ (by omega)]; simp
  have hfz : ∀ t nn, frzB ⟨nn, t, A ++ [.row 1 (bs.map B8) 0] ++ [.row 3 [.agg [.ms A.length 1 n 0 n, I 0, I 0]] 0]⟩ (A.length + 1) = ⟨nn, t, A ++ [.row 1 (bs.map B8) n] ++ [rdB ⟨bs, 0, 0⟩]⟩ := fun t nn => by
    have hz : fzs [.agg [.ms A.length 1 n 0 n, I 0, I 0]] (A ++ [.row 1 (bs.map B8) 0] ++ [.row 3 [.agg [.ms A.length 1 n 0 n, I 0, I 0]] 0]) = some ([.agg [.sl false (bs.map B8), I 0, I 0]], A ++ [.row 1 (bs.map B8) n] ++ [.row 3 [.agg [.ms A.length 1 n 0 n, I 0, I 0]] 0]) := by
      unfold fzs
      simp only [fzL, fzA_agg]
      rw [fzA_row (k := 1) (z := 0) (els := bs.map B8) (by unfold getRow; rw [hgB]) (by rw [List.length_map]; exact hn) (plain_bytes bs)]
      simp only [mark, getRow, hgB, hsB, fzL, fzA_int]
      simp
    unfold frzB
    simp only [getRow, hgA, hz, AV.beqL_refl, if_true, hsA]
    rfl
  simp +contextual (disch := omega) only [Try.f35, dd35, go_sem, ↓reduceIte, List.reduceReplicate, Nat.reduceAdd, Nat.reduceSub, reduceCtorEq, evBin, Nat.reduceLeDiff, Nat.reduceMul, Nat.reduceLT, Nat.reduceEqDiff, Int.reduceBNe, Int.reduceBEq, Int.reduceEq, Int.reduceLT, Int.reduceLE, Int.reduceGT, Int.reduceGE, mu35, Nat.reduceBEq, ↓wrap_up, ↓wrap_down, ↓wrap_pred, ↓wrap_sub_nat, Int.reduceToNat, ty5, happ, hgA, hfz]
  rw [rp, List.append_assoc]
  rfl
end
end Go.Ev
namespace Go.Ev

structure Way where
  pc : Nat
  at_ : Nat
  regs : List Int

/-- What one instruction makes of the way that is on top: a result, or the ways that go on (the first is taken next). -/
inductive Out where
  | done
  | ways (l : List Way)

/-- One instruction; `has`, `holds`: do a set's spans have the text's symbol here; does an assertion hold here. -/
structure Prog1 where
  ins : Nat → Option Ins
  has : List (Int × Int) → Nat → Bool
  holds : Int → Nat → Bool

def stepW (p : Prog1) (w : Way) : Out :=
  match p.ins w.pc with
  | none => .ways []
  | some i =>
    if i.op = 0 then .done
    else if i.op = 1 then (if p.has i.set w.at_ then .ways [⟨w.pc + 1, w.at_ + 1, w.regs⟩] else .ways [])
    else if i.op = 2 then .ways [⟨i.x.toNat, w.at_, w.regs⟩, ⟨i.y.toNat, w.at_, w.regs⟩]
    else if i.op = 3 then .ways [⟨i.x.toNat, w.at_, w.regs⟩]
    else if i.op = 4 then .ways [⟨w.pc + 1, w.at_, w.regs.set i.n.toNat w.at_⟩]
    else (if p.holds i.n w.at_ then .ways [⟨w.pc + 1, w.at_, w.regs⟩] else .ways [])

/-- The run: fuel, the ways that are left (the first is next), the results so far; `none`: the fuel is used up. -/
def runW (p : Prog1) (most : Int) : Nat → List Way → List Way → Option (List Way)
  | fuel, todo, out =>
    match todo with
    | [] => some out
    | w :: rest =>
      if (out.length : Int) = most then some out
      else
        match fuel with
        | 0 => none
        | fuel + 1 =>
          match stepW p w with
          | .done => runW p most fuel rest (out ++ [w])
          | .ways l => runW p most fuel (l ++ rest) out

/-- Alike but for the registers. -/
def Way.like (a b : Way) : Prop := a.pc = b.pc ∧ a.at_ = b.at_
def likeL : List Way → List Way → Prop
  | [], [] => True
  | a :: l, b :: m => a.like b ∧ likeL l m
  | _, _ => False
theorem likeL_append : ∀ {a b c d : List Way}, likeL a b → likeL c d → likeL (a ++ c) (b ++ d)
  | [], [], _, _, _, h => h
  | _ :: _, _ :: _, _, _, h1, h2 => ⟨h1.1, likeL_append h1.2 h2⟩
  | [], _ :: _, _, _, h, _ => h.elim
  | _ :: _, [], _, _, h, _ => h.elim

def likeO : Out → Out → Prop
  | .done, .done => True
  | .ways l, .ways m => likeL l m
  | _, _ => False
theorem stepW_like (p : Prog1) {a b : Way} (h : a.like b) : likeO (stepW p a) (stepW p b) := by
  obtain ⟨h1, h2⟩ := h
  unfold stepW
  rw [h1, h2]
  cases p.ins b.pc with
  | none => exact trivial
  | some i =>
    simp only []
    repeat' split
    all_goals first | exact trivial | exact ⟨⟨rfl, rfl⟩, trivial⟩ | exact ⟨⟨rfl, rfl⟩, ⟨rfl, rfl⟩, trivial⟩

/-- From one way on top, in so many steps that never look below it, to another one on top of others; so many results are found. -/
inductive Reach (p : Prog1) : Way → Way → List Way → Nat → Nat → Prop where
  | refl (w : Way) : Reach p w w [] 0 0
  | on {w0 w w' : Way} {E l : List Way} {d m : Nat} (h : Reach p w0 w E d m) (hs : stepW p w = .ways (w' :: l)) : Reach p w0 w' (l ++ E) d (m + 1)
  | pop {w0 w e : Way} {E : List Way} {d m : Nat} (h : Reach p w0 w (e :: E) d m) (hs : stepW p w = .ways []) : Reach p w0 e E d (m + 1)
  | found {w0 w e : Way} {E : List Way} {d m : Nat} (h : Reach p w0 w (e :: E) d m) (hs : stepW p w = .done) : Reach p w0 e E (d + 1) (m + 1)

theorem Reach.like {p : Prog1} {w0 w : Way} {E : List Way} {d m : Nat} (h : Reach p w0 w E d m) {v0 : Way} (hv : w0.like v0) : ∃ v F, w.like v ∧ likeL E F ∧ Reach p v0 v F d m := by
  induction h with
  | refl => exact ⟨v0, [], hv, trivial, .refl v0⟩
  | on h hs ih =>
    obtain ⟨v, F, h1, h2, h3⟩ := ih
    have h4 := stepW_like p h1
    rw [hs] at h4
    cases hq : stepW p v with
    | done => rw [hq] at h4; exact h4.elim
    | ways l2 =>
      rw [hq] at h4
      cases l2 with
      | nil => exact h4.elim
      | cons a l2 => exact ⟨a, l2 ++ F, h4.1, likeL_append h4.2 h2, .on h3 hq⟩
  | pop h hs ih =>
    obtain ⟨v, F, h1, h2, h3⟩ := ih
    have h4 := stepW_like p h1
    rw [hs] at h4
    cases hq : stepW p v with
    | done => rw [hq] at h4; exact h4.elim
    | ways l2 =>
      rw [hq] at h4
      cases l2 with
      | nil =>
        cases F with
        | nil => exact h2.elim
        | cons f F => exact ⟨f, F, h2.1, h2.2, .pop h3 hq⟩
      | cons a l2 => exact h4.elim
  | found h hs ih =>
    obtain ⟨v, F, h1, h2, h3⟩ := ih
    have h4 := stepW_like p h1
    rw [hs] at h4
    cases hq : stepW p v with
    | done =>
      cases F with
      | nil => exact h2.elim
      | cons f F => exact ⟨f, F, h2.1, h2.2, .found h3 hq⟩
    | ways l2 => rw [hq] at h4; exact h4.elim

theorem runW_step {p : Prog1} {most : Int} {fuel : Nat} {w : Way} {rest out : List Way} (h : ¬ (out.length : Int) = most) :
    runW p most (fuel + 1) (w :: rest) out = match stepW p w with
      | .done => runW p most fuel rest (out ++ [w])
      | .ways l => runW p most fuel (l ++ rest) out := by
  conv => lhs; unfold runW
  simp only [h, if_false]
theorem runW_zero {p : Prog1} {most : Int} {w : Way} {rest out : List Way} (h : ¬ (out.length : Int) = most) : runW p most 0 (w :: rest) out = none := by
  unfold runW
  simp only [h, if_false]

/-- The run follows. -/
theorem Reach.run {p : Prog1} {most : Int} {w0 w : Way} {E : List Way} {d m : Nat} (h : Reach p w0 w E d m) (S out : List Way) (hm : most = -1 ∨ (d = 0 ∧ ¬ (out.length : Int) = most)) (fuel : Nat) :
    ∃ out', out'.length = out.length + d ∧ runW p most (m + fuel) (w0 :: S) out = runW p most fuel (w :: (E ++ S)) out' := by
  induction h generalizing fuel with
  | refl => exact ⟨out, rfl, by rw [Nat.zero_add]; rfl⟩
  | @on w w' E l d m h hs ih =>
    obtain ⟨out', h1, h2⟩ := ih hm (fuel + 1)
    refine ⟨out', h1, ?_⟩
    rw [show m + 1 + fuel = m + (fuel + 1) by omega, h2, runW_step (by rcases hm with h | ⟨h, h'⟩ <;> omega), hs]
    simp only [List.cons_append, List.append_assoc]
  | @pop w e E d m h hs ih =>
    obtain ⟨out', h1, h2⟩ := ih hm (fuel + 1)
    refine ⟨out', h1, ?_⟩
    rw [show m + 1 + fuel = m + (fuel + 1) by omega, h2, runW_step (by rcases hm with h | ⟨h, h'⟩ <;> omega), hs]
    rfl
  | @found w e E d m h hs ih =>
    rcases hm with hm | hm
    · obtain ⟨out', h1, h2⟩ := ih (.inl hm) (fuel + 1)
      refine ⟨out' ++ [w], by simp; omega, ?_⟩
      rw [show m + 1 + fuel = m + (fuel + 1) by omega, h2, runW_step (by omega), hs]
      rfl
    · omega

/-- With too little fuel for it, the run ends without. -/
theorem Reach.short {p : Prog1} {most : Int} {w0 w : Way} {E : List Way} {d m : Nat} (h : Reach p w0 w E d m) (S out : List Way) (hm : most = -1 ∨ (d = 0 ∧ ¬ (out.length : Int) = most)) (fuel : Nat) (hf : fuel < m) :
    runW p most fuel (w0 :: S) out = none := by
  induction h generalizing fuel with
  | refl => omega
  | @on w w' E l d m h hs ih =>
    rcases Nat.lt_or_ge fuel m with h1 | h1
    · exact ih hm fuel h1
    · obtain rfl : fuel = m := by omega
      obtain ⟨out', h2, h3⟩ := h.run S out hm 0
      rw [Nat.add_zero] at h3
      rw [h3, runW_zero (by rcases hm with h | ⟨h, h'⟩ <;> omega)]
  | @pop w e E d m h hs ih =>
    rcases Nat.lt_or_ge fuel m with h1 | h1
    · exact ih hm fuel h1
    · obtain rfl : fuel = m := by omega
      obtain ⟨out', h2, h3⟩ := h.run S out hm 0
      rw [Nat.add_zero] at h3
      rw [h3, runW_zero (by rcases hm with h | ⟨h, h'⟩ <;> omega)]
  | @found w e E d m h hs ih =>
    rcases hm with hm | hm
    · rcases Nat.lt_or_ge fuel m with h1 | h1
      · exact ih (.inl hm) fuel h1
      · obtain rfl : fuel = m := by omega
        obtain ⟨out', h2, h3⟩ := h.run S out (.inl hm) 0
        rw [Nat.add_zero] at h3
        rw [h3, runW_zero (by omega)]
    · omega

/-- A way that comes round again is never left. -/
theorem circle {p : Prog1} {most : Int} {w0 w : Way} {E : List Way} {d m : Nat} (h : Reach p w0 w E d (m + 1)) (hl : w0.like w) : ∀ (fuel : Nat) (v0 : Way) (S out : List Way), w0.like v0 → (most = -1 ∨ (d = 0 ∧ ¬ (out.length : Int) = most)) →
    runW p most fuel (v0 :: S) out = none := by
  intro fuel
  induction fuel using Nat.strongRecOn with
  | ind fuel ih =>
    intro v0 S out hv hm
    obtain ⟨v, F, h1, h2, h3⟩ := h.like hv
    rcases Nat.lt_or_ge fuel (m + 1) with hf | hf
    · exact h3.short S out hm fuel hf
    · obtain ⟨out', o1, o2⟩ := h3.run S out hm (fuel - (m + 1))
      rw [show m + 1 + (fuel - (m + 1)) = fuel by omega] at o2
      rw [o2]
      refine ih _ (by omega) v (F ++ S) out' ⟨hl.1.trans h1.1, hl.2.trans h1.2⟩ ?_
      rcases hm with hm | ⟨hm, hm'⟩
      · exact .inl hm
      · exact .inr ⟨hm, by omega⟩

end Go.Ev
namespace Go.Ev

/-- A way with what the walk knows of it: how many instructions it has begun since it came to its position or since the results were so many. -/
structure WayI where
  w : Way
  idle : Nat
  found : Nat

def nextI (p : Prog1) (e : WayI) (idle found outN : Nat) : Out → Option (List WayI)
  | .done => none
  | .ways l => some (l.map fun v => if v.at_ = e.w.at_ then ⟨v, idle, found⟩ else ⟨v, 0, outN⟩)

def runI (p : Prog1) (n : Nat) (most : Int) : Nat → List WayI → List Way → Option (List Way)
  | fuel, todo, out =>
    match todo with
    | [] => some out
    | e :: rest =>
      if (out.length : Int) = most then some out
      else
        match fuel with
        | 0 => none
        | fuel + 1 =>
          if n ≤ e.idle ∧ (most = -1 ∨ e.found = out.length) then none
          else
            match nextI p e (if n ≤ e.idle then 1 else e.idle + 1) (if n ≤ e.idle then out.length else e.found) out.length (stepW p e.w) with
            | none => runI p n most fuel rest (out ++ [e.w])
            | some l => runI p n most fuel (l ++ rest) out


/-- One way is the same up to registers, and something was found again: that it ends depends on how many were found alone. -/
theorem runW_none_len {p : Prog1} {most : Int} : ∀ (fuel : Nat) (todo out out' : List Way), out.length = out'.length → runW p most fuel todo out = none → runW p most fuel todo out' = none
  | fuel, [], out, out', _, h => by unfold runW at h; simp at h
  | 0, w :: todo, out, out', hl, h => by
    by_cases ho : (out.length : Int) = most
    · unfold runW at h; simp only [ho, if_true] at h; cases h
    · exact runW_zero (by rw [← hl]; exact ho)
  | fuel + 1, w :: todo, out, out', hl, h => by
    by_cases ho : (out.length : Int) = most
    · unfold runW at h; simp only [ho, if_true] at h; cases h
    · rw [runW_step ho] at h
      rw [runW_step (by rw [← hl]; exact ho)]
      cases hs : stepW p w with
      | done => rw [hs] at h; exact runW_none_len fuel todo _ _ (by simp [hl]) h
      | ways l => rw [hs] at h; exact runW_none_len fuel _ _ _ hl h

/-- What is remembered of a way: where it has been (newest first) since it came to its position. -/
structure Ghost where
  e : WayI
  hs : List Way

/-- Of two places of a way's history, the older leads to the newer. -/
def Chain (p : Prog1) (found outN : Nat) : List Way → Prop
  | [] => True
  | a :: l => (∀ b ∈ l, ∃ E d m, Reach p b a E d (m + 1) ∧ found + d ≤ outN) ∧ Chain p found outN l

theorem Chain.mono {p : Prog1} {f n n' : Nat} (h : n ≤ n') : ∀ {l : List Way}, Chain p f n l → Chain p f n' l
  | [], _ => trivial
  | a :: l, ⟨h1, h2⟩ => ⟨fun b hb => by
      obtain ⟨E, d, m, r, hd⟩ := h1 b hb
      exact ⟨E, d, m, r, by omega⟩, Chain.mono h h2⟩

/-- The stack's state: for each way on it, every place of its history leads to the way on top, above what was below that place. -/
structure Hist (p : Prog1) (n outN : Nat) (t : Ghost) (rest : List Ghost) : Prop where
  idle : ∀ g ∈ t :: rest, g.hs.length = g.e.idle ∧ g.e.found ≤ outN
  at_ : ∀ g ∈ t :: rest, g.e.w.pc < n ∧ ∀ h ∈ g.hs, h.at_ = g.e.w.at_ ∧ h.pc < n
  chain : ∀ g ∈ t :: rest, Chain p g.e.found outN g.hs
  /-- For the way number i (from the top): history places lead to the top with the ways in between, and more below it. -/
  reach : ∀ i g, (t :: rest)[i]? = some g → ∀ h ∈ g.hs, ∃ E S d m, rest.map (·.e.w) = E ++ S ∧ i ≤ E.length ∧ Reach p h t.e.w E d (m + 1) ∧ g.e.found + d ≤ outN

theorem nodup_lt : ∀ (n : Nat) (L : List Nat), (∀ x ∈ L, x < n) → L.Nodup → L.length ≤ n
  | 0, [], _, _ => Nat.le_refl _
  | 0, x :: _, h, _ => absurd (h x (List.mem_cons_self ..)) (Nat.not_lt_zero _)
  | n + 1, L, h, hd => by
    have h1 : (L.erase n).length ≤ n := nodup_lt n (L.erase n) (fun x hx => by
      have h2 := (List.Nodup.mem_erase_iff hd).1 hx
      have h3 := h x h2.2
      have h4 := h2.1
      omega) (hd.erase n)
    rw [List.length_erase] at h1
    split at h1 <;> omega

theorem chain_dup {p : Prog1} {f N : Nat} : ∀ (L : List Way), Chain p f N L → ¬ (L.map (·.pc)).Nodup → ∃ a ∈ L, ∃ b ∈ L, b.pc = a.pc ∧ ∃ E d m, Reach p b a E d (m + 1) ∧ f + d ≤ N
  | [], _, h => absurd List.nodup_nil h
  | a :: l, ⟨h1, h2⟩, h => by
    by_cases hb : ∃ b ∈ l, b.pc = a.pc
    · obtain ⟨b, b1, b2⟩ := hb
      exact ⟨a, List.mem_cons_self .., b, List.mem_cons_of_mem _ b1, b2, h1 b b1⟩
    · have : ¬ (l.map (·.pc)).Nodup := fun hn => h (by
        rw [List.map_cons, List.nodup_cons]
        refine ⟨fun hm => ?_, hn⟩
        obtain ⟨b, b1, b2⟩ := List.mem_map.1 hm
        exact hb ⟨b, b1, b2⟩)
      obtain ⟨x, x1, y, y1, r⟩ := chain_dup l h2 this
      exact ⟨x, List.mem_cons_of_mem _ x1, y, List.mem_cons_of_mem _ y1, r⟩

/-- The history with the place where the way is now. -/
theorem Hist.now {p : Prog1} {n outN : Nat} {t : Ghost} {rest : List Ghost} (h : Hist p n outN t rest) : Chain p t.e.found outN (t.e.w :: t.hs) :=
  ⟨fun b hb => by
    obtain ⟨E, S, d, m, _, _, r, hd⟩ := h.reach 0 t rfl b hb
    exact ⟨E, d, m, r, hd⟩, h.chain t (List.mem_cons_self ..)⟩

/-- Too many instructions at one position, and nothing found between: the way is in a circle. -/
theorem Hist.circle {p : Prog1} {n : Nat} {t : Ghost} {rest : List Ghost} {out : List Way} (h : Hist p n out.length t rest) (hn : n ≤ t.e.idle) {most : Int} (hm : most = -1 ∨ t.e.found = out.length) (ho : ¬ (out.length : Int) = most) (fuel : Nat) :
    runW p most fuel (t.e.w :: rest.map (·.e.w)) out = none := by
  have h0 := h.now
  have hat := h.at_ t (List.mem_cons_self ..)
  have hid := h.idle t (List.mem_cons_self ..)
  have hlen : ¬ ((t.e.w :: t.hs).map (·.pc)).Nodup := fun hd => by
    have := nodup_lt n _ (fun x hx => by
      obtain ⟨b, b1, rfl⟩ := List.mem_map.1 hx
      rcases List.mem_cons.1 b1 with e | e
      · rw [e]; exact hat.1
      · exact (hat.2 b e).2) hd
    rw [List.length_map, List.length_cons, hid.1] at this
    omega
  obtain ⟨a, a1, b, b1, hpc, E, d, m, r, hd⟩ := chain_dup _ h0 hlen
  have hlike : b.like a := by
    refine ⟨hpc, ?_⟩
    have : ∀ c ∈ t.e.w :: t.hs, c.at_ = t.e.w.at_ := fun c hc => by
      rcases List.mem_cons.1 hc with e | e
      · rw [e]
      · exact (hat.2 c e).1
    rw [this b b1, this a a1]
  have hd0 : most = -1 ∨ d = 0 := by
    rcases hm with h | h
    · exact .inl h
    · exact .inr (by omega)
  rcases List.mem_cons.1 a1 with e | e
  · subst e
    refine Go.Ev.circle r hlike fuel t.e.w _ out hlike ?_
    rcases hd0 with h | h
    · exact .inl h
    · exact .inr ⟨h, ho⟩
  · obtain ⟨E2, S2, d2, m2, hr, _, r2, hd2⟩ := h.reach 0 t rfl a e
    have hlen0 : (out.take (out.length - d2)).length + d2 = out.length := by simp; omega
    have hq : most = -1 ∨ (d2 = 0 ∧ ¬ ((out.take (out.length - d2)).length : Int) = most) := by
      rcases hm with h | h
      · exact .inl h
      · refine .inr ⟨by omega, ?_⟩
        have : d2 = 0 := by omega
        subst this
        simpa using ho
    obtain ⟨out', o1, o2⟩ := r2.run S2 (out.take (out.length - d2)) hq fuel
    have hn := Go.Ev.circle r hlike (m2 + 1 + fuel) a S2 (out.take (out.length - d2)) hlike (by
      rcases hd0 with h | h
      · exact .inl h
      · rcases hq with g | g
        · exact .inl g
        · exact .inr ⟨h, g.2⟩)
    rw [hn] at o2
    rw [hr]
    exact runW_none_len fuel _ out' out (by omega) o2.symm

/-- A way is followed further. -/
theorem Hist.step {p : Prog1} {n outN : Nat} {t : Ghost} {rest : List Ghost} (h : Hist p n outN t rest) (hcl : ∀ w l, w.pc < n → stepW p w = .ways l → ∀ v ∈ l, v.pc < n)
    {hs : List Way} {found : Nat} (hh : (hs = t.e.w :: t.hs ∧ found = t.e.found) ∨ (hs = [t.e.w] ∧ found = outN)) {v : Way} {l : List Way} (hs1 : stepW p t.e.w = .ways (v :: l)) :
    ∃ t' rest', Hist p n outN t' rest' ∧ t'.e :: rest'.map (·.e) = (v :: l).map (fun v => if v.at_ = t.e.w.at_ then ⟨v, hs.length, found⟩ else ⟨v, 0, outN⟩) ++ rest.map (·.e) := by
  have hat := h.at_ t (List.mem_cons_self ..)
  have hid := h.idle t (List.mem_cons_self ..)
  have hf : found ≤ outN := by rcases hh with ⟨_, h⟩ | ⟨_, h⟩ <;> omega
  have hhs : ∀ b ∈ hs, b.at_ = t.e.w.at_ ∧ b.pc < n := fun b hb => by
    rcases hh with ⟨e, _⟩ | ⟨e, _⟩
    · rw [e] at hb
      rcases List.mem_cons.1 hb with e | e
      · rw [e]; exact ⟨rfl, hat.1⟩
      · exact hat.2 b e
    · rw [e] at hb
      rw [List.mem_singleton.1 hb]; exact ⟨rfl, hat.1⟩
  have hch : Chain p found outN hs := by
    rcases hh with ⟨e, e'⟩ | ⟨e, e'⟩
    · rw [e, e']; exact h.now
    · rw [e]; exact ⟨fun b hb => by simp at hb, trivial⟩
  -- what is new leads on
  have hre : ∀ b ∈ hs, ∃ E S d m, rest.map (·.e.w) = E ++ S ∧ Reach p b v (l ++ E) d (m + 1) ∧ found + d ≤ outN := fun b hb => by
    have self : ∃ E S d m, rest.map (·.e.w) = E ++ S ∧ Reach p t.e.w v (l ++ E) d (m + 1) ∧ found + d ≤ outN := ⟨[], _, 0, 0, rfl, .on (.refl _) hs1, by omega⟩
    rcases hh with ⟨e, e'⟩ | ⟨e, _⟩
    · rw [e] at hb
      rcases List.mem_cons.1 hb with e | e
      · rw [e]; exact self
      · obtain ⟨E, S, d, m, r1, r2, r3, r4⟩ := h.reach 0 t rfl b e
        exact ⟨E, S, d, m + 1, r1, .on r3 hs1, by omega⟩
    · rw [e] at hb
      rw [List.mem_singleton.1 hb]; exact self
  let gh : Way → Ghost := fun v => if v.at_ = t.e.w.at_ then ⟨⟨v, hs.length, found⟩, hs⟩ else ⟨⟨v, 0, outN⟩, []⟩
  have hgh : ∀ v, (gh v).e.w = v := fun v => by simp only [gh]; split <;> rfl
  have hghe : ∀ v, (gh v).e = if v.at_ = t.e.w.at_ then ⟨v, hs.length, found⟩ else ⟨v, 0, outN⟩ := fun v => by simp only [gh]; split <;> rfl
  have hghs : ∀ v, (gh v).hs = hs ∧ (gh v).e.found = found ∨ (gh v).hs = [] := fun v => by
    simp only [gh]; split
    · exact .inl ⟨rfl, rfl⟩
    · exact .inr rfl
  have hpc := hcl t.e.w (v :: l) hat.1 hs1
  refine ⟨gh v, l.map gh ++ rest, ⟨fun g hg => ?_, fun g hg => ?_, fun g hg => ?_, fun i g hg b hb => ?_⟩, ?_⟩
  · have hcase : g ∈ (v :: l).map gh ∨ g ∈ rest := by simpa [or_assoc] using hg
    rcases hcase with hg | hg
    · obtain ⟨u, _, rfl⟩ := List.mem_map.1 hg
      simp only [gh]; split
      · exact ⟨rfl, hf⟩
      · exact ⟨rfl, Nat.le_refl _⟩
    · exact h.idle g (List.mem_cons_of_mem _ hg)
  · have hcase : g ∈ (v :: l).map gh ∨ g ∈ rest := by simpa [or_assoc] using hg
    rcases hcase with hg | hg
    · obtain ⟨u, hu, rfl⟩ := List.mem_map.1 hg
      refine ⟨by rw [hgh]; exact hpc u hu, ?_⟩
      simp only [gh]; split
      · rename_i e
        intro b hb
        rw [e]; exact hhs b hb
      · intro b hb; simp at hb
    · exact h.at_ g (List.mem_cons_of_mem _ hg)
  · have hcase : g ∈ (v :: l).map gh ∨ g ∈ rest := by simpa [or_assoc] using hg
    rcases hcase with hg | hg
    · obtain ⟨u, _, rfl⟩ := List.mem_map.1 hg
      simp only [gh]; split
      · exact hch
      · exact trivial
    · exact h.chain g (List.mem_cons_of_mem _ hg)
  · have hmap : (l.map gh ++ rest).map (·.e.w) = l ++ rest.map (·.e.w) := by
      rw [List.map_append, List.map_map]
      congr 1
      rw [show ((fun x : Ghost => x.e.w) ∘ gh) = id from funext hgh, List.map_id]
    rw [hmap, hgh]
    by_cases hi : i < (v :: l).length
    · have hg' : ((v :: l).map gh)[i]? = some g := by
        rw [show gh v :: (l.map gh ++ rest) = (v :: l).map gh ++ rest from rfl, List.getElem?_append_left (by simpa using hi)] at hg
        exact hg
      obtain ⟨u, _, rfl⟩ := List.mem_map.1 (List.mem_of_getElem? hg')
      rcases hghs u with ⟨e1, e2⟩ | e1
      · rw [e1] at hb
        obtain ⟨E, S, d, m, r1, r2, r3⟩ := hre b hb
        exact ⟨l ++ E, S, d, m, by rw [r1, List.append_assoc], by simp at hi ⊢; omega, r2, by rw [e2]; exact r3⟩
      · rw [e1] at hb; simp at hb
    · rw [show gh v :: (l.map gh ++ rest) = (v :: l).map gh ++ rest from rfl, List.getElem?_append_right (by simp at hi ⊢; omega)] at hg
      simp only [List.length_map] at hg
      obtain ⟨E, S, d, m, r1, r2, r3, r4⟩ := h.reach (i - (v :: l).length + 1) g (by simpa using hg) b hb
      refine ⟨l ++ E, S, d, m + 1, by rw [r1, List.append_assoc], ?_, .on r3 hs1, r4⟩
      simp at hi r2 ⊢; omega
  · simp only [List.map_cons, List.map_append, List.map_map, List.cons_append, List.cons.injEq]
    exact ⟨hghe v, by congr 1; exact List.map_congr_left fun u _ => hghe u⟩

/-- The way on top has ended. -/
theorem Hist.pop {p : Prog1} {n outN : Nat} {t e : Ghost} {rest : List Ghost} (h : Hist p n outN t (e :: rest)) {k : Nat} (hs : (stepW p t.e.w = .ways [] ∧ k = 0) ∨ (stepW p t.e.w = .done ∧ k = 1)) : Hist p n (outN + k) e rest := by
  refine ⟨fun g hg => ?_, fun g hg => h.at_ g (List.mem_cons_of_mem _ hg), fun g hg => (h.chain g (List.mem_cons_of_mem _ hg)).mono (by omega), fun i g hg b hb => ?_⟩
  · have := h.idle g (List.mem_cons_of_mem _ hg)
    exact ⟨this.1, by omega⟩
  · obtain ⟨E, S, d, m, r1, r2, r3, r4⟩ := h.reach (i + 1) g (by simpa using hg) b hb
    cases E with
    | nil => simp at r2
    | cons x E =>
      simp only [List.map_cons, List.cons_append, List.cons.injEq] at r1
      obtain ⟨rfl, r1⟩ := r1
      rcases hs with ⟨hs, rfl⟩ | ⟨hs, rfl⟩
      · exact ⟨E, S, d, m + 1, r1, by simpa using r2, .pop r3 hs, r4⟩
      · exact ⟨E, S, d + 1, m + 1, r1, by simpa using r2, .found r3 hs, by omega⟩

theorem runI_hist {p : Prog1} {n : Nat} {most : Int} (hcl : ∀ w l, w.pc < n → stepW p w = .ways l → ∀ v ∈ l, v.pc < n) : ∀ (fuel : Nat) (t : Ghost) (rest : List Ghost) (out : List Way), Hist p n out.length t rest →
    runI p n most fuel (t.e :: rest.map (·.e)) out = runW p most fuel (t.e.w :: rest.map (·.e.w)) out := by
  intro fuel
  induction fuel with
  | zero =>
    intro t rest out h
    unfold runI runW
    simp only []
  | succ fuel ih =>
    intro t rest out h
    by_cases ho : (out.length : Int) = most
    · unfold runI runW
      simp only [ho, if_true]
    · by_cases hc : n ≤ t.e.idle ∧ (most = -1 ∨ t.e.found = out.length)
      · have h1 := h.circle hc.1 hc.2 ho (fuel + 1)
        rw [h1]
        unfold runI
        simp only [ho, hc, and_self, if_true, if_false]
      · unfold runI runW
        simp only [ho, hc, if_false]
        have hid := h.idle t (List.mem_cons_self ..)
        have pop : ∀ out', (∀ e rest', rest = e :: rest' → Hist p n out'.length e rest') → runI p n most fuel (rest.map (·.e)) out' = runW p most fuel (rest.map (·.e.w)) out' := by
          intro out' hp
          cases rest with
          | nil => unfold runI runW; rfl
          | cons e rest' => exact ih e rest' out' (hp e rest' rfl)
        cases hs : stepW p t.e.w with
        | done =>
          simp only [nextI]
          refine pop _ (fun e rest' he => ?_)
          subst he
          have := h.pop (k := 1) (.inr ⟨hs, rfl⟩)
          simpa using this
        | ways l =>
          simp only [nextI]
          cases l with
          | nil =>
            refine pop out (fun e rest' he => ?_)
            subst he
            have := h.pop (k := 0) (.inl ⟨hs, rfl⟩)
            simpa using this
          | cons v l =>
            obtain ⟨t', rest', h1, h2⟩ := h.step hcl (hs := if n ≤ t.e.idle then [t.e.w] else t.e.w :: t.hs) (found := if n ≤ t.e.idle then out.length else t.e.found)
              (by split
                  · exact .inr ⟨rfl, rfl⟩
                  · exact .inl ⟨rfl, rfl⟩) hs
            have h3 := ih t' rest' out h1
            have hl : (if n ≤ t.e.idle then [t.e.w] else t.e.w :: t.hs).length = if n ≤ t.e.idle then 1 else t.e.idle + 1 := by
              split
              · rfl
              · simp [hid.1]
            rw [h2, hl] at h3
            rw [h3]
            have h4 : t'.e.w :: rest'.map (·.e.w) = (t'.e :: rest'.map (·.e)).map (·.w) := by simp
            rw [h4, h2, List.map_append, List.map_map, List.map_map]
            congr 1
            congr 1
            rw [← List.map_id (v :: l)]
            rw [List.map_map]
            refine List.map_congr_left fun u _ => ?_
            simp only [Function.comp]
            split <;> rfl

/-- From one way on, both walks find the same. -/
theorem runI_eq {p : Prog1} {n : Nat} (hcl : ∀ w l, w.pc < n → stepW p w = .ways l → ∀ v ∈ l, v.pc < n) (most : Int) (fuel : Nat) (w : Way) (hw : w.pc < n) :
    runI p n most fuel [⟨w, 0, 0⟩] [] = runW p most fuel [w] [] :=
  runI_hist hcl fuel ⟨⟨w, 0, 0⟩, []⟩ [] [] ⟨fun g hg => by simp at hg; subst hg; exact ⟨rfl, Nat.zero_le _⟩, fun g hg => by simp at hg; subst hg; exact ⟨hw, fun _ h => by simp at h⟩, fun g hg => by simp at hg; subst hg; exact trivial,
    fun i g hg h hh => by
      match i, hg with
      | 0, hg => simp at hg; subst hg; simp at hh
      | i + 1, hg => simp at hg⟩

end Go.Ev
namespace Go.Ev
attribute [local go_sem] eq_self bindW_some bindW_map bindW_ite bindW_iteN W_seq W_region W_draw W_cond W_condK W_ret W_skip W_exit W_scope W_label W_block blockK_norm blockK_ret blockK_exit WO_nil WO_cons WO_guard WD_nil WD_cons WD_guard guardV guardW_boolT guardW_boolF guardW_tup fpL_some fpL_none footprint thenK_norm thenK_ret thenK_exit put_some put_none ev_tmp ev_con ev_func ofK_int ofK_bool ofK_str ofK_nil evOp evBuiltin evCall evLen getElem_16 getElem_4 List.length_cons List.length_nil List.cons_append List.nil_append List.append_nil if_false if_true Bool.false_eq_true Bool.true_eq_false Option.map_some Option.map_none List.map_cons List.map_nil evBinOp evUn asB_bool splitB_decide splitB_true splitB_false splitB_beq splitB_bne splitB_not endK_ret endK_norm List.getElem?_cons_zero List.getElem?_cons_succ evResults evResult packRes retK_norm retK_ret cellsAt mkVal evFieldAddr evField evIndexAddr evPart evStore evBuild evBuildSlice fillC fillE evSlice evMakeSlice evConvert getRow AV.cells List.head?_cons List.drop_zero List.drop_succ_cons List.take_zero List.take_succ_cons List.drop_nil List.take_nil List.all_cons List.all_nil AV.ok Bool.and_self Bool.and_true Bool.true_and and_self and_true true_and Nat.zero_add Nat.add_zero setCells splice pairsOk pairsX altW_none altW_some cfg_al WI_nil WI_cons FP.apart heapEq_refl sameAt_refl Bool.or_true Bool.true_or Bool.or_false srcElems elemsOf mutDst roundK_norm roundK_exit roundK_ret List.length_map List.getElem?_map Int.toNat_natCast decide_true decide_false Bool.not_true Bool.not_false List.set set_0 set_1 set_2 set_3 set_4 look_hit look lookD_hit lookD_cons lookD_nil ins_hit ins upd_hit upd rem1_hit rem1 dropT dropSt_eq initT cfg_dd cfg_bd cfg_ra actL_nil actL_cons act1 updT_hit updT retE_norm retE_ret bndO bnd evEq eqCells not_false_eq_true not_true_eq_false toList_some Array.size_empty List.length_append endE_norm endE_ret head_take1 List.contains_nil List.contains_cons Bool.or_self dlt_t dlt_f dle_t dle_f dgt_t dgt_f dge_t dge_f beq_t beq_f bne_t bne_f lt_T le_T nle_T nle_F Go.IntWalk.i64_in Go.IntWalk.i64_quo Go.IntWalk.rem_in ty0 ty3 ty4 ty36
section
attribute [local go_sem] evAppend evBin frzB List.map_append ty23 ty33 ty35 ty86 ty104 ty124 ty175 ty178
open Go.Proofs Go.RowKit Go.IntWalk
set_option maxRecDepth 100000
set_option linter.unusedSimpArgs false
set_option linter.unusedVariables false
set_option maxHeartbeats 4000000

theorem f120 (g : Prg) (n : Int) (b : MB) (hl : g.ins.length ≤ 1000000) :
    call Try.prog pol1 120 [.int .i64 n, .rf 0 1 0 0] [.row 3 [.agg [.sl false (g.ins.map insAV), I g.caps, .bool g.runes]] 0, b] =
      some (.bool (decide (0 ≤ n ∧ n < g.ins.length)), [.row 3 [.agg [.sl false (g.ins.map insAV), I g.caps, .bool g.runes]] 0, b]) := by
  refine call_run2 Try.func120 rfl rfl rfl rfl (by rfl) ?_
  by_cases h : 0 ≤ n
  · by_cases h2 : n < g.ins.length
    all_goals
      simp +contextual (disch := omega) only [Try.f120, dd120, go_sem, ↓reduceIte, List.reduceReplicate, Nat.reduceAdd, Nat.reduceSub, reduceCtorEq, Nat.reduceLeDiff, Nat.reduceMul, Nat.reduceLT, Nat.reduceEqDiff, Int.reduceBNe, Int.reduceBEq, Int.reduceEq, Int.reduceLT, Int.reduceLE, Int.reduceGT, Int.reduceGE, mu120, Nat.reduceBEq, ↓wrap_up, ↓wrap_down, ↓wrap_pred, ↓wrap_sub_nat, Int.reduceToNat]
      refine (retPol_keep rfl rfl rfl ?_ rfl).trans ?_
      · simp [keptOk, MB.beq_refl]
      · simp [h, h2]
  · simp +contextual (disch := omega) only [Try.f120, dd120, go_sem, ↓reduceIte, List.reduceReplicate, Nat.reduceAdd, Nat.reduceSub, reduceCtorEq, Nat.reduceLeDiff, Nat.reduceMul, Nat.reduceLT, Nat.reduceEqDiff, Int.reduceBNe, Int.reduceBEq, Int.reduceEq, Int.reduceLT, Int.reduceLE, Int.reduceGT, Int.reduceGE, mu120, Nat.reduceBEq, ↓wrap_up, ↓wrap_down, ↓wrap_pred, ↓wrap_sub_nat, Int.reduceToNat]
    refine (retPol_keep rfl rfl rfl ?_ rfl).trans ?_
    · simp [keptOk, MB.beq_refl]
    · simp [h]

theorem refSpans_last {l : List (Int × Int)} (h : refSpans l = 0) {p : Int × Int} (hp : l[l.length - 1]? = some p) : p.2 ≤ 1114111 := by
  have hl : l.length - 1 < l.length := (List.getElem?_eq_some_iff.1 hp).1
  cases hb : badAt l (l.length - 1) with
  | true => rw [refSpans_bad hl hb] at h; cases h
  | false =>
    simp only [badAt, hp, Bool.or_eq_false_iff, Bool.not_eq_false', decide_eq_true_eq] at hb
    exact hb.1.2.2

/-- The method (Prog).valid. -/
theorem f69 (g : Prg) (i : Ins) (hc : 0 ≤ g.caps ∧ g.caps ≤ 9) (hl : g.ins.length ≤ 1000000) (hs : i.set.length ≤ 1000000) (H : List MB) :
    call Try.prog pol1 69 [.agg [.sl false (g.ins.map insAV), I g.caps, .bool g.runes], .pt [I i.op, I i.x, I i.y, I i.n, .sl false (i.set.map spanAV)]] H = some (.bool (okIns g.ins.length g.caps g.runes i), H) := by
  refine call_run Try.func69 rfl rfl rfl rfl rfl rfl (fun _ => rfl) (by simp [AV.plain, AV.plainL, plain_ints, plain_span, plain_ins, plain_prg]) (by simp [AV.plain, AV.plainL, plain_ints, plain_span, plain_ins, plain_prg]) ?_ H
  obtain ⟨op, x, y, n, set⟩ := i
  simp only [] at hs
  by_cases h1 : op = 1
  · subst h1
    rcases Nat.eq_zero_or_pos set.length with hz | hz
    · obtain rfl : set = [] := List.length_eq_zero_iff.1 hz
      have ht := f121 [] (by simp)
      have e : refSpans [] = 0 := by decide
      rw [e, List.map_nil] at ht
      cases hr : g.runes
      all_goals
        simp +contextual (disch := omega) only [Try.f69, dd69, go_sem, ↓reduceIte, List.reduceReplicate, Nat.reduceAdd, Nat.reduceSub, reduceCtorEq, Nat.reduceLeDiff, Nat.reduceMul, Nat.reduceLT, Nat.reduceEqDiff, Int.reduceBNe, Int.reduceBEq, Int.reduceEq, Int.reduceLT, Int.reduceLE, Int.reduceGT, Int.reduceGE, mu69, Nat.reduceBEq, ↓wrap_up, ↓wrap_down, ↓wrap_pred, ↓wrap_sub_nat, Int.reduceToNat, prgAV, ht, hr]
        repeat' (first | intro _ | apply And.intro | refine fzEq rfl (congrArg AV.bool ?_) | (unfold dOk; kernel_rfl) | (show (_ && _) = true; kernel_rfl) | (show (_ || _) = true; kernel_rfl))
        all_goals (try rw [Bool.eq_iff_iff]; try simp_all [okIns, lastOk]; try omega)
    · obtain ⟨p, hp⟩ : ∃ p, set[set.length - 1]? = some p := ⟨_, List.getElem?_eq_getElem (by omega)⟩
      have ht := f121 set hs
      have hq : refSpans set = 0 → p.2 ≤ 1114111 := fun h => refSpans_last h hp
      cases hr : g.runes
      all_goals
        simp +contextual (disch := omega) only [Try.f69, dd69, go_sem, ↓reduceIte, List.reduceReplicate, Nat.reduceAdd, Nat.reduceSub, reduceCtorEq, Nat.reduceLeDiff, Nat.reduceMul, Nat.reduceLT, Nat.reduceEqDiff, Int.reduceBNe, Int.reduceBEq, Int.reduceEq, Int.reduceLT, Int.reduceLE, Int.reduceGT, Int.reduceGE, mu69, Nat.reduceBEq, ↓wrap_up, ↓wrap_down, ↓wrap_pred, ↓wrap_sub_nat, Int.reduceToNat, prgAV, ht, hr, hp, spanAV]
        repeat' (first | intro _ | apply And.intro | refine fzEq rfl (congrArg AV.bool ?_) | (unfold dOk; kernel_rfl) | (show (_ && _) = true; kernel_rfl) | (show (_ || _) = true; kernel_rfl))
        all_goals (try rw [Bool.eq_iff_iff]; try simp_all [okIns, lastOk]; try omega)
  by_cases h0 : op = 0
  · subst h0
    simp +contextual (disch := omega) only [Try.f69, dd69, go_sem, ↓reduceIte, List.reduceReplicate, Nat.reduceAdd, Nat.reduceSub, reduceCtorEq, Nat.reduceLeDiff, Nat.reduceMul, Nat.reduceLT, Nat.reduceEqDiff, Int.reduceBNe, Int.reduceBEq, Int.reduceEq, Int.reduceLT, Int.reduceLE, Int.reduceGT, Int.reduceGE, mu69, Nat.reduceBEq, ↓wrap_up, ↓wrap_down, ↓wrap_pred, ↓wrap_sub_nat, Int.reduceToNat, prgAV]
    repeat' (first | intro _ | apply And.intro | refine fzEq rfl (congrArg AV.bool ?_) | (unfold dOk; kernel_rfl) | (show (_ && _) = true; kernel_rfl) | (show (_ || _) = true; kernel_rfl))
    all_goals (try rw [Bool.eq_iff_iff]; try simp_all [okIns, -List.length_eq_zero_iff]; try omega)
  by_cases h2 : op = 2
  · subst h2
    simp +contextual (disch := omega) only [Try.f69, dd69, go_sem, ↓reduceIte, List.reduceReplicate, Nat.reduceAdd, Nat.reduceSub, reduceCtorEq, Nat.reduceLeDiff, Nat.reduceMul, Nat.reduceLT, Nat.reduceEqDiff, Int.reduceBNe, Int.reduceBEq, Int.reduceEq, Int.reduceLT, Int.reduceLE, Int.reduceGT, Int.reduceGE, mu69, Nat.reduceBEq, ↓wrap_up, ↓wrap_down, ↓wrap_pred, ↓wrap_sub_nat, Int.reduceToNat, prgAV, f120, hl]
    repeat' (first | intro _ | apply And.intro | refine fzEq rfl (congrArg AV.bool ?_) | (unfold dOk; kernel_rfl) | (show (_ && _) = true; kernel_rfl) | (show (_ || _) = true; kernel_rfl))
    all_goals (try rw [Bool.eq_iff_iff]; try simp_all [okIns, -List.length_eq_zero_iff]; try omega)
  by_cases h3 : op = 3
  · subst h3
    simp +contextual (disch := omega) only [Try.f69, dd69, go_sem, ↓reduceIte, List.reduceReplicate, Nat.reduceAdd, Nat.reduceSub, reduceCtorEq, Nat.reduceLeDiff, Nat.reduceMul, Nat.reduceLT, Nat.reduceEqDiff, Int.reduceBNe, Int.reduceBEq, Int.reduceEq, Int.reduceLT, Int.reduceLE, Int.reduceGT, Int.reduceGE, mu69, Nat.reduceBEq, ↓wrap_up, ↓wrap_down, ↓wrap_pred, ↓wrap_sub_nat, Int.reduceToNat, prgAV, f120, hl]
    repeat' (first | intro _ | apply And.intro | refine fzEq rfl (congrArg AV.bool ?_) | (unfold dOk; kernel_rfl) | (show (_ && _) = true; kernel_rfl) | (show (_ || _) = true; kernel_rfl))
    all_goals (try rw [Bool.eq_iff_iff]; try simp_all [okIns, -List.length_eq_zero_iff]; try omega)
  by_cases h4 : op = 4
  · subst h4
    simp +contextual (disch := omega) only [Try.f69, dd69, go_sem, ↓reduceIte, List.reduceReplicate, Nat.reduceAdd, Nat.reduceSub, reduceCtorEq, Nat.reduceLeDiff, Nat.reduceMul, Nat.reduceLT, Nat.reduceEqDiff, Int.reduceBNe, Int.reduceBEq, Int.reduceEq, Int.reduceLT, Int.reduceLE, Int.reduceGT, Int.reduceGE, mu69, Nat.reduceBEq, ↓wrap_up, ↓wrap_down, ↓wrap_pred, ↓wrap_sub_nat, Int.reduceToNat, prgAV]
    repeat' (first | intro _ | apply And.intro | refine fzEq rfl (congrArg AV.bool ?_) | (unfold dOk; kernel_rfl) | (show (_ && _) = true; kernel_rfl) | (show (_ || _) = true; kernel_rfl))
    all_goals (try rw [Bool.eq_iff_iff]; try simp_all [okIns, -List.length_eq_zero_iff]; try omega)
  by_cases h5 : op = 5
  · subst h5
    simp +contextual (disch := omega) only [Try.f69, dd69, go_sem, ↓reduceIte, List.reduceReplicate, Nat.reduceAdd, Nat.reduceSub, reduceCtorEq, Nat.reduceLeDiff, Nat.reduceMul, Nat.reduceLT, Nat.reduceEqDiff, Int.reduceBNe, Int.reduceBEq, Int.reduceEq, Int.reduceLT, Int.reduceLE, Int.reduceGT, Int.reduceGE, mu69, Nat.reduceBEq, ↓wrap_up, ↓wrap_down, ↓wrap_pred, ↓wrap_sub_nat, Int.reduceToNat, prgAV]
    repeat' (first | intro _ | apply And.intro | refine fzEq rfl (congrArg AV.bool ?_) | (unfold dOk; kernel_rfl) | (show (_ && _) = true; kernel_rfl) | (show (_ || _) = true; kernel_rfl))
    all_goals (try rw [Bool.eq_iff_iff]; try simp_all [okIns, -List.length_eq_zero_iff]; try omega)
  simp +contextual (disch := omega) only [Try.f69, dd69, go_sem, ↓reduceIte, List.reduceReplicate, Nat.reduceAdd, Nat.reduceSub, reduceCtorEq, Nat.reduceLeDiff, Nat.reduceMul, Nat.reduceLT, Nat.reduceEqDiff, Int.reduceBNe, Int.reduceBEq, Int.reduceEq, Int.reduceLT, Int.reduceLE, Int.reduceGT, Int.reduceGE, mu69, Nat.reduceBEq, ↓wrap_up, ↓wrap_down, ↓wrap_pred, ↓wrap_sub_nat, Int.reduceToNat, prgAV]
  repeat' (first | intro _ | apply And.intro | refine fzEq rfl (congrArg AV.bool ?_) | (unfold dOk; kernel_rfl) | (show (_ && _) = true; kernel_rfl) | (show (_ || _) = true; kernel_rfl))
  all_goals (try rw [Bool.eq_iff_iff]; try simp_all [okIns, -List.length_eq_zero_iff]; try omega)

end
end Go.Ev
