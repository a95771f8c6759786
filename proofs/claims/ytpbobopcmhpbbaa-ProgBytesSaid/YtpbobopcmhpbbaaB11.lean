/- Functions of the program, each with what it computes; no further conditions. -/
import Derived.Test.YtpbobopcmhpbbaaB05
import Derived.Test.YtpbobopcmhpbbaaB10
set_option linter.unusedVariables false
set_option linter.unusedSimpArgs false
namespace Go.Ev
attribute [local go_sem] eq_self bindW_some bindW_map bindW_ite bindW_iteN W_seq W_region W_draw W_cond W_condK W_ret W_skip W_exit W_scope W_label W_block blockK_norm blockK_ret blockK_exit WO_nil WO_cons WO_guard WD_nil WD_cons WD_guard guardV guardW_boolT guardW_boolF guardW_tup fpL_some fpL_none footprint thenK_norm thenK_ret thenK_exit put_some put_none ev_tmp ev_con ev_func ofK_int ofK_bool ofK_str ofK_nil evOp evBuiltin evCall evLen getElem_16 getElem_4 List.length_cons List.length_nil List.cons_append List.nil_append List.append_nil if_false if_true Bool.false_eq_true Bool.true_eq_false Option.map_some Option.map_none List.map_cons List.map_nil evBinOp evUn asB_bool splitB_decide splitB_true splitB_false splitB_beq splitB_bne splitB_not endK_ret endK_norm List.getElem?_cons_zero List.getElem?_cons_succ evResults evResult packRes retK_norm retK_ret cellsAt mkVal evFieldAddr evField evIndexAddr evPart evStore evBuild evBuildSlice fillC fillE evSlice evMakeSlice evConvert getRow AV.cells List.head?_cons List.drop_zero List.drop_succ_cons List.take_zero List.take_succ_cons List.drop_nil List.take_nil List.all_cons List.all_nil AV.ok Bool.and_self Bool.and_true Bool.true_and and_self and_true true_and Nat.zero_add Nat.add_zero setCells splice pairsOk pairsX altW_none altW_some cfg_al WI_nil WI_cons FP.apart heapEq_refl sameAt_refl Bool.or_true Bool.true_or Bool.or_false srcElems elemsOf mutDst roundK_norm roundK_exit roundK_ret List.length_map List.getElem?_map Int.toNat_natCast decide_true decide_false Bool.not_true Bool.not_false List.set set_0 set_1 set_2 set_3 set_4 look_hit look lookD_hit lookD_cons lookD_nil ins_hit ins upd_hit upd rem1_hit rem1 dropT dropSt_eq initT cfg_dd cfg_bd cfg_ra actL_nil actL_cons act1 updT_hit updT frzB retE_norm retE_ret bndO bnd evEq eqCells not_false_eq_true not_true_eq_false toList_some Array.size_empty List.length_append tySzE List.head?_drop Nat.mul_one sameAt_zero sameAt_two sameAt_three sameAt_four sameAt_five endE_norm endE_ret head_take1 List.contains_nil List.contains_cons Bool.or_self dlt_t dlt_f dle_t dle_f dgt_t dgt_f dge_t dge_f beq_t beq_f bne_t bne_f lt_T le_T nle_T nle_F Go.IntWalk.i64_in Go.IntWalk.i64_quo Go.IntWalk.rem_in room_ok ty0 ty3 ty4 ty23 ty71
section
attribute [local go_sem] ty5 ty74 ty86 ty143 ty145 ty183
open Go.Proofs Go.RowKit Go.IntWalk
set_option maxRecDepth 100000
set_option linter.unusedSimpArgs false
set_option linter.unusedVariables false
set_option maxHeartbeats 8000000

abbrev B8 (n : Int) : AV := .int .u8 n
theorem plain_bytes (l : List Int) : AV.plainL (l.map B8) = true := by
  induction l with
  | nil => rfl
  | cons a l ih => simp [AV.plainL, ih]; rfl
section
variable {α : Type} (A K : List α) (x y v : α)
theorem pre_get : (A ++ x :: K)[A.length]? = some x := by simp
theorem pre_get1 : (A ++ x :: y :: K)[A.length + 1]? = some y := by
  rw [List.getElem?_append_right (by omega)]; simp
theorem pre_set : (A ++ x :: K).set A.length v = A ++ v :: K := by simp
theorem pre_set1 : (A ++ x :: y :: K).set (A.length + 1) v = A ++ x :: v :: K := by
  rw [List.set_append_right _ _ (by omega)]; simp
end
/-- A writer, somewhere in the heap. -/
abbrev wrH (A : List MB) (bs : List Int) (n : Nat) (K : List MB) : List MB := A ++ .row 1 [.agg [.ms (A.length + 1) 1 n 0 n]] 0 :: .row 1 (bs.map B8) 0 :: K

theorem or128 {n : Nat} (h : 128 ≤ n) : evBin .or .u8 (IntKind.u8.wrap n) 128 = some (B8 ((128 + n % 128 : Nat) : Int)) := by
  have key : ∀ m : Fin 256, IntKind.u8.wrap (BitVec.ofInt IntKind.u8.bits ((m.val : Nat) : Int) ||| BitVec.ofInt IntKind.u8.bits 128).toNat = ((128 + m.val % 128 : Nat) : Int) := by decide +kernel
  have hw : IntKind.u8.wrap n = ((n % 256 : Nat) : Int) := by simp [IntKind.wrap, IntKind.signed, IntKind.bits]
  rw [hw]
  have := key ⟨n % 256, Nat.mod_lt _ (by omega)⟩
  simp only [show n % 256 % 128 = n % 128 by omega] at this
  simp only [evBin, this]
theorem shr7 (n : Nat) : evShift .shr .u64 n 7 = some (.int .u64 ((n / 128 : Nat) : Int)) := by
  simp only [evShift]
  simp
  rw [Int.fdiv_eq_ediv_of_nonneg _ (by decide)]
  rfl
section
variable {k : IntKind} {a b : Int}
theorem evB_add : evBin .add k a b = some (.int k (k.wrap (a + b))) := rfl
theorem evB_mul : evBin .mul k a b = some (.int k (k.wrap (a * b))) := rfl
theorem evB_eql : evBin .eql k a b = some (.bool (a == b)) := rfl
theorem evB_neq : evBin .neq k a b = some (.bool (a != b)) := rfl
theorem evB_lss : evBin .lss k a b = some (.bool (decide (a < b))) := rfl
theorem evB_gtr : evBin .gtr k a b = some (.bool (decide (a > b))) := rfl
theorem evB_geq : evBin .geq k a b = some (.bool (decide (a ≥ b))) := rfl
end
theorem w8_in {n : Nat} (h : n < 256) : IntKind.u8.wrap n = (n : Int) := by
  simp [IntKind.wrap, IntKind.signed, IntKind.bits]; omega
theorem w64_in {n : Nat} (h : n < 18446744073709551616) : IntKind.u64.wrap n = (n : Int) := by
  simp [IntKind.wrap, IntKind.signed, IntKind.bits]; omega
/-- Bytes, appended behind all that there is. -/
theorem app_b {H : List MB} {i n z : Nat} {bs cs : List Int} {t : Bool} (hi : getRow H i = some (1, bs.map B8, z)) (hn : bs.length = n) (hz : z ≤ n) (hr : n + cs.length ≤ 4000000000) :
    evAppend Try.prog H 71 71 (.ms i 1 n 0 n) (.sl t (cs.map B8)) = some (.ms i 1 (n + cs.length) 0 (n + cs.length), H.set i (.row 1 ((bs ++ cs).map B8) z)) := by
  have hs : srcElems Try.prog H 5 (.sl t (cs.map B8)) = some (cs.map B8) := rfl
  rw [evAppend_end (e := 5) (by kernel_rfl) (by kernel_rfl) (k := 1) (by kernel_rfl) (by_ := 1) (by kernel_rfl) (ze := B8 0) (by kernel_rfl) rfl (by omega) hs (by rw [List.all_eq_true]; intro x hx; obtain ⟨c, _, rfl⟩ := List.mem_map.1 hx; rfl) hi (by rw [List.length_map]; exact hn) hz (room_ok (by rw [List.length_map]; exact hr) (by omega))]
  rw [List.length_map, List.map_append]
theorem app_b1 {H : List MB} {i n z : Nat} {bs : List Int} {c : Int} {t : Bool} (hi : getRow H i = some (1, bs.map B8, z)) (hn : bs.length = n) (hz : z ≤ n) (hr : n + 1 ≤ 4000000000) :
    evAppend Try.prog H 71 71 (.ms i 1 n 0 n) (.sl t [B8 c]) = some (.ms i 1 (n + 1) 0 (n + 1), H.set i (.row 1 ((bs ++ [c]).map B8) z)) :=
  app_b (cs := [c]) hi hn hz hr

theorem wr_get {A K : List MB} {bs : List Int} {n : Nat} : getRow (wrH A bs n K) (A.length + 1) = some (1, bs.map B8, 0) := by
  unfold getRow
  rw [pre_get1]
theorem f80 (A K : List MB) (bs : List Int) (v : Nat) (hv : v < 18446744073709551616) (n : Nat) (hn : bs.length = n) (hb : n ≤ 1000000000) :
    call Try.prog pol1 80 [.rf A.length 1 0 0, .int .u64 v] (wrH A bs n K) = some (.tup [], wrH A (bs ++ vI v) (n + (vI v).length) K) := by
  have fr : frzArgs pol1 80 0 [.rf A.length 1 0 0, .int .u64 v] (wrH A bs n K) = some ([.rf A.length 1 0 0, .int .u64 v], wrH A bs n K) := frzArgs_mix _ _ _ rfl
  refine call_run2 (pol := pol1) Try.func80 rfl rfl rfl rfl fr ?_
  have rp : ∀ H1 r H, retPol pol1 80 H1 r H = some (r, H) := fun H1 r H => rfl
  have h0 := vI_len10 hv
  simp +contextual (disch := omega) only [Try.f80, dd80, go_sem, ↓reduceIte, List.reduceReplicate, Nat.reduceAdd, Nat.reduceSub, reduceCtorEq, Nat.reduceLeDiff, Nat.reduceMul, Nat.reduceLT, Nat.reduceEqDiff, Int.reduceBNe, Int.reduceBEq, Int.reduceEq, Int.reduceLT, Int.reduceLE, Int.reduceGT, Int.reduceGE, List.map_append, mu80, Nat.reduceBEq, ↓wrap_up, ↓wrap_down, ↓wrap_pred, ↓wrap_sub_nat, Int.reduceToNat, evB_geq]
  refine W_for (σ := Nat × List Int × Nat) (M := ⟨some [1, 0], none, []⟩) rfl (fun x => (⟨31, [(1, .int .u64 (x.1 : Nat)), (0, .rf A.length 1 0 0)], wrH A x.2.1 x.2.2 K⟩ : St)) (fun x => x.1 ≤ v ∧ x.2.1.length = x.2.2 ∧ x.2.1 ++ vI x.1 = bs ++ vI v ∧ x.2.2 + (vI x.1).length = n + (vI v).length) (fun x => x.1) (v, bs, n) ?_ ⟨Nat.le_refl _, hn, rfl, rfl⟩ _ rfl
  rintro ⟨w, cs, m⟩ ⟨hw, hm, he, hl⟩
  simp only at hw hm he hl ⊢
  have happ := fun c => app_b1 (H := wrH A cs m K) (i := A.length + 1) (n := m) (z := 0) (bs := cs) (c := c) (t := true) wr_get hm (Nat.zero_le _) (by have := vI_pos w; omega)
  by_cases hg : 128 ≤ w
  · have ho := or128 hg
    have hs := shr7 w
    simp +contextual (disch := omega) only [Try.f80, dd80, go_sem, ↓reduceIte, List.reduceReplicate, Nat.reduceAdd, Nat.reduceSub, reduceCtorEq, Nat.reduceLeDiff, Nat.reduceMul, Nat.reduceLT, Nat.reduceEqDiff, Int.reduceBNe, Int.reduceBEq, Int.reduceEq, Int.reduceLT, Int.reduceLE, Int.reduceGT, Int.reduceGE, List.map_append, mu80, Nat.reduceBEq, ↓wrap_up, ↓wrap_down, ↓wrap_pred, ↓wrap_sub_nat, Int.reduceToNat, evB_geq, pre_get, pre_get1, pre_set, pre_set1, ho, hs, happ]
    rw [vI_ge hg] at he hl
    refine ⟨(w / 128, cs ++ [((128 + w % 128 : Nat) : Int)], m + 1), ⟨?_, ?_, ?_, ?_⟩, ?_, ?_⟩
    · show w / 128 ≤ v; omega
    · simp [hm]
    · rw [← he]; simp
    · rw [← hl]; simp; omega
    · show w / 128 < w; omega
    · have hm1 : List.map B8 cs ++ [B8 ((128 + w % 128 : Nat) : Int)] = (cs ++ [((128 + w % 128 : Nat) : Int)]).map B8 := by simp
      rw [hm1]
      rfl
  · have hc := w8_in (n := w) (by omega)
    simp +contextual (disch := omega) only [Try.f80, dd80, go_sem, ↓reduceIte, List.reduceReplicate, Nat.reduceAdd, Nat.reduceSub, reduceCtorEq, Nat.reduceLeDiff, Nat.reduceMul, Nat.reduceLT, Nat.reduceEqDiff, Int.reduceBNe, Int.reduceBEq, Int.reduceEq, Int.reduceLT, Int.reduceLE, Int.reduceGT, Int.reduceGE, List.map_append, mu80, Nat.reduceBEq, ↓wrap_up, ↓wrap_down, ↓wrap_pred, ↓wrap_sub_nat, Int.reduceToNat, evB_geq, pre_get, pre_get1, pre_set, pre_set1, hc, happ]
    rw [vI_lt (by omega)] at he hl
    rw [rp, ← he, ← hl]
    simp

theorem xor_zero64 (a : Nat) (h : a < 18446744073709551616) : evBin .xor .u64 a 0 = some (.int .u64 a) := by
  have : (BitVec.ofInt IntKind.u64.bits (a : Int) ^^^ BitVec.ofInt IntKind.u64.bits 0).toNat = a := by
    show (BitVec.ofInt 64 (a : Int) ^^^ BitVec.ofInt 64 0).toNat = a
    rw [show BitVec.ofInt 64 0 = 0#64 from rfl, BitVec.xor_zero, BitVec.ofInt_natCast, BitVec.toNat_ofNat]
    omega
  simp only [evBin, this, w64_in h]
theorem xor_ones64 (a : Nat) (h : a < 18446744073709551616) : evBin .xor .u64 a 18446744073709551615 = some (.int .u64 ((18446744073709551615 - a : Nat) : Int)) := by
  have : (BitVec.ofInt IntKind.u64.bits (a : Int) ^^^ BitVec.ofInt IntKind.u64.bits 18446744073709551615).toNat = 18446744073709551615 - a := by
    show (BitVec.ofInt 64 (a : Int) ^^^ BitVec.ofInt 64 18446744073709551615).toNat = _
    rw [show BitVec.ofInt 64 18446744073709551615 = BitVec.allOnes 64 from rfl, BitVec.xor_allOnes, BitVec.toNat_not, BitVec.ofInt_natCast, BitVec.toNat_ofNat]
    omega
  simp only [evBin, this]
  rw [w64_in (by omega)]
theorem shl1 (a : Int) : evShift .shl .u64 a 1 = some (.int .u64 (IntKind.u64.wrap (a * 2))) := rfl
theorem shr63 (a : Int) : evShift .shr .i64 a 63 = some (.int .i64 (a.fdiv 9223372036854775808)) := rfl
theorem zz_ev (n : Int) (h : -9223372036854775808 ≤ n ∧ n ≤ 9223372036854775807) :
    evBin .xor .u64 (IntKind.u64.wrap (IntKind.u64.wrap n * 2)) (IntKind.u64.wrap (n.fdiv 9223372036854775808)) = some (.int .u64 (zz n : Nat)) := by
  rw [Int.fdiv_eq_ediv_of_nonneg _ (by decide)]
  by_cases h0 : n < 0
  · have e1 : IntKind.u64.wrap (IntKind.u64.wrap n * 2) = ((18446744073709551615 - zz n : Nat) : Int) := by
      rw [IntKind.wrap_u64, IntKind.wrap_u64]; unfold zz; rw [if_pos h0]; omega
    have e2 : IntKind.u64.wrap (n / 9223372036854775808) = 18446744073709551615 := by
      rw [IntKind.wrap_u64]; omega
    have := zz_lt h
    rw [e1, e2, xor_ones64 _ (by omega)]
    rw [show 18446744073709551615 - (18446744073709551615 - zz n) = zz n by omega]
  · have e1 : IntKind.u64.wrap (IntKind.u64.wrap n * 2) = (zz n : Nat) := by
      rw [IntKind.wrap_u64, IntKind.wrap_u64]; unfold zz; rw [if_neg h0]; omega
    have e2 : IntKind.u64.wrap (n / 9223372036854775808) = 0 := by
      rw [IntKind.wrap_u64]; omega
    rw [e1, e2, xor_zero64 _ (zz_lt h)]
theorem f77 (A K : List MB) (bs : List Int) (v : Int) (hv : -9223372036854775808 ≤ v ∧ v ≤ 9223372036854775807) (n : Nat) (hn : bs.length = n) (hb : n ≤ 1000000000) :
    call Try.prog pol1 77 [.rf A.length 1 0 0, I v] (wrH A bs n K) = some (.tup [], wrH A (bs ++ iE v) (n + (iE v).length) K) := by
  have fr : frzArgs pol1 77 0 [.rf A.length 1 0 0, I v] (wrH A bs n K) = some ([.rf A.length 1 0 0, I v], wrH A bs n K) := frzArgs_mix _ _ _ rfl
  refine call_run2 (pol := pol1) Try.func77 rfl rfl rfl rfl fr ?_
  have rp : ∀ H1 r H, retPol pol1 77 H1 r H = some (r, H) := fun H1 r H => rfl
  have h80 := f80 A K bs (zz v) (zz_lt hv) n hn hb
  have hz := zz_ev v hv
  simp +contextual (disch := omega) only [Try.f77, dd77, go_sem, ↓reduceIte, List.reduceReplicate, Nat.reduceAdd, Nat.reduceSub, reduceCtorEq, Nat.reduceLeDiff, Nat.reduceMul, Nat.reduceLT, Nat.reduceEqDiff, Int.reduceBNe, Int.reduceBEq, Int.reduceEq, Int.reduceLT, Int.reduceLE, Int.reduceGT, Int.reduceGE, List.map_append, mu77, Nat.reduceBEq, ↓wrap_up, ↓wrap_down, ↓wrap_pred, ↓wrap_sub_nat, Int.reduceToNat, h80, hz, shl1, shr63]
  rw [rp]
  rfl
theorem f78 (A K : List MB) (bs : List Int) (v : Bool) (n : Nat) (hn : bs.length = n) (hb : n ≤ 1000000000) :
    call Try.prog pol1 78 [.rf A.length 1 0 0, .bool v] (wrH A bs n K) = some (.tup [], wrH A (bs ++ boolE v) (n + 1) K) := by
  have fr : frzArgs pol1 78 0 [.rf A.length 1 0 0, .bool v] (wrH A bs n K) = some ([.rf A.length 1 0 0, .bool v], wrH A bs n K) := frzArgs_mix _ _ _ rfl
  refine call_run2 (pol := pol1) Try.func78 rfl rfl rfl rfl fr ?_
  have rp : ∀ H1 r H, retPol pol1 78 H1 r H = some (r, H) := fun H1 r H => rfl
  have happ := fun c => app_b1 (H := wrH A bs n K) (i := A.length + 1) (n := n) (z := 0) (bs := bs) (c := c) (t := true) wr_get hn (Nat.zero_le _) (by omega)
  cases v
  · simp +contextual (disch := omega) only [Try.f78, dd78, go_sem, ↓reduceIte, List.reduceReplicate, Nat.reduceAdd, Nat.reduceSub, reduceCtorEq, evBin, Nat.reduceLeDiff, Nat.reduceMul, Nat.reduceLT, Nat.reduceEqDiff, Int.reduceBNe, Int.reduceBEq, Int.reduceEq, Int.reduceLT, Int.reduceLE, Int.reduceGT, Int.reduceGE, List.map_append, mu78, Nat.reduceBEq, ↓wrap_up, ↓wrap_down, ↓wrap_pred, ↓wrap_sub_nat, Int.reduceToNat, ty5, pre_get, pre_get1, pre_set, pre_set1, happ]
    rw [rp]
    simp [boolE]
  · simp +contextual (disch := omega) only [Try.f78, dd78, go_sem, ↓reduceIte, List.reduceReplicate, Nat.reduceAdd, Nat.reduceSub, reduceCtorEq, evBin, Nat.reduceLeDiff, Nat.reduceMul, Nat.reduceLT, Nat.reduceEqDiff, Int.reduceBNe, Int.reduceBEq, Int.reduceEq, Int.reduceLT, Int.reduceLE, Int.reduceGT, Int.reduceGE, List.map_append, mu78, Nat.reduceBEq, ↓wrap_up, ↓wrap_down, ↓wrap_pred, ↓wrap_sub_nat, Int.reduceToNat, ty5, pre_get, pre_get1, pre_set, pre_set1, happ]
    rw [rp]
    simp [boolE]
theorem f34 (A K : List MB) (bs cs : List Int) (n : Nat) (hn : bs.length = n) (hb : n ≤ 1000000000) (hc : cs.length ≤ 1000000000) :
    call Try.prog pol1 34 [.rf A.length 1 0 0, .sl false (cs.map B8)] (wrH A bs n K) = some (.tup [], wrH A (bs ++ rawE cs) (n + (rawE cs).length) K) := by
  have fr : frzArgs pol1 34 0 [.rf A.length 1 0 0, .sl false (cs.map B8)] (wrH A bs n K) = some ([.rf A.length 1 0 0, .sl false (cs.map B8)], wrH A bs n K) := frzArgs_mix _ _ _ (by simp [mixOk, show pol1.byref 34 0 = true from rfl, AV.plain, plain_bytes])
  refine call_run2 (pol := pol1) Try.func34 rfl rfl rfl rfl fr ?_
  have rp : ∀ H1 r H, retPol pol1 34 H1 r H = some (r, H) := fun H1 r H => rfl
  have h80 := f80 A K bs cs.length (by omega) n hn hb
  have hw := w64_in (n := cs.length) (by omega)
  have hl := vI_len10 (n := cs.length) (by omega)
  have happ := app_b (H := wrH A (bs ++ vI cs.length) (n + (vI cs.length).length) K) (i := A.length + 1) (n := n + (vI cs.length).length) (z := 0) (bs := bs ++ vI cs.length) (cs := cs) (t := false) wr_get (by simp [hn]) (Nat.zero_le _) (by omega)
  simp +contextual (disch := omega) only [Try.f34, dd34, go_sem, ↓reduceIte, List.reduceReplicate, Nat.reduceAdd, Nat.reduceSub, reduceCtorEq, evBin, Nat.reduceLeDiff, Nat.reduceMul, Nat.reduceLT, Nat.reduceEqDiff, Int.reduceBNe, Int.reduceBEq, Int.reduceEq, Int.reduceLT, Int.reduceLE, Int.reduceGT, Int.reduceGE, List.map_append, mu34, Nat.reduceBEq, ↓wrap_up, ↓wrap_down, ↓wrap_pred, ↓wrap_sub_nat, Int.reduceToNat, h80, hw, pre_get, pre_get1, pre_set, pre_set1, happ]
  rw [rp]
  simp [rawE, Nat.add_assoc]
theorem ret_fresh {f k n : Nat} (hk : pol1.keep f = false) (ho : pol1.own f = false) (H : List MB) (els : List AV) (hn : els.length = n) (hp : AV.plainL els = true) :
    retPol pol1 f H (.ms H.length k n 0 n) (H ++ [.row k els 0]) = some (.sl false els, H) := by
  subst hn
  have hr : getRow (H ++ [.row k els 0]) H.length = some (k, els, 0) := by simp [getRow]
  have h1 : fz (.ms H.length k els.length 0 els.length) (H ++ [.row k els 0]) = some (.sl false els, H ++ [.row k els els.length]) := by
    rw [fz_row hr rfl hp]
    unfold mark
    rw [hr]
    simp
  have h2 := keptOk_self H.length [.row k els els.length] H
  unfold retPol
  simp only [hk, ho, Bool.false_eq_true, if_false, h1, AV.under, underL_plain H.length els hp, h2, and_self, if_true]
  simp
theorem bytes_ok (bs : List Int) : (bs.map B8).all (fun y => decide (y.cells.length = 1) && y.cells.all AV.ok) = true := by
  rw [List.all_eq_true]; intro x hx; obtain ⟨c, _, rfl⟩ := List.mem_map.1 hx; rfl
/-- Bytes, appended to nothing: a new block. -/
theorem app_new {H : List MB} {x : AV} {bs : List Int} {n : Nat} (hs : srcElems Try.prog H 5 x = some (bs.map B8)) (h0 : bs ≠ []) (hn : bs.length = n) (hr : n ≤ 4000000000) :
    evAppend Try.prog H 71 71 (.sl true []) x = some (.ms H.length 1 n 0 n, H ++ [.row 1 (bs.map B8) 0]) := by
  subst hn
  obtain ⟨b, bs', rfl⟩ := List.exists_cons_of_ne_nil h0
  have e1 : tyElem Try.prog 71 = some 5 := by kernel_rfl
  have e2 : tyNotInt Try.prog 71 = true := by kernel_rfl
  have e3 : tySz Try.prog 5 = some 1 := by kernel_rfl
  have e4 : tyBytes Try.prog 5 = some 1 := by kernel_rfl
  have e5 : tyZero Try.prog 5 = some (B8 0) := by kernel_rfl
  unfold evAppend
  simp only [e1, e2, e3, e4, e5, hs]
  rw [if_pos ⟨bytes_ok _, by omega, rfl⟩]
  have hroom := room_ok (n := 0 + ((b :: bs').map B8).length) (b := 1) (by rw [List.length_map]; omega) (by omega)
  simp only [List.map_cons] at hroom ⊢
  simp only [List.length_nil]
  rw [if_pos ⟨trivial, hroom, rfl⟩]
  simp
theorem src_ms {H : List MB} {i n z : Nat} {bs : List Int} (hi : getRow H i = some (1, bs.map B8, z)) (hn : bs.length = n) : srcElems Try.prog H 5 (.ms i 1 n 0 n) = some (bs.map B8) := by
  subst hn
  simp only [srcElems, elemsOf, hi]
  rw [if_pos ⟨by rw [List.length_map], trivial⟩, List.drop_zero, List.take_of_length_le (by rw [List.length_map]; exact Nat.le_refl _)]
theorem f36 (A K : List MB) (bs : List Int) (n : Nat) (hn : bs.length = n) (hb : n ≤ 1000000000) (h0 : bs ≠ []) :
    call Try.prog pol1 36 [.rf A.length 1 0 0] (wrH A bs n K) = some (.sl false (bs.map B8), wrH A bs n K) := by
  have fr : frzArgs pol1 36 0 [.rf A.length 1 0 0] (wrH A bs n K) = some ([.rf A.length 1 0 0], wrH A bs n K) := frzArgs_mix _ _ _ rfl
  refine call_run2 (pol := pol1) Try.func36 rfl rfl rfl rfl fr ?_
  have happ := app_new (H := wrH A bs n K) (src_ms (i := A.length + 1) wr_get hn) h0 hn (by omega)
  simp +contextual (disch := omega) only [Try.f36, dd36, go_sem, ↓reduceIte, List.reduceReplicate, Nat.reduceAdd, Nat.reduceSub, reduceCtorEq, evBin, Nat.reduceLeDiff, Nat.reduceMul, Nat.reduceLT, Nat.reduceEqDiff, Int.reduceBNe, Int.reduceBEq, Int.reduceEq, Int.reduceLT, Int.reduceLE, Int.reduceGT, Int.reduceGE, List.map_append, mu36, Nat.reduceBEq, ↓wrap_up, ↓wrap_down, ↓wrap_pred, ↓wrap_sub_nat, Int.reduceToNat, ty5, pre_get, pre_get1, pre_set, pre_set1, happ]
  have hl : A.length + (K.length + 1 + 1) = (wrH A bs n K).length := by simp
  rw [hl]
  exact ret_fresh rfl rfl _ _ (by rw [List.length_map]; exact hn) (plain_bytes _)

theorem iE_len {v : Int} (h : In64 v) : (iE v).length ≤ 10 := vI_len10 (zz_lt h)
def In64S (s : List (Int × Int)) : Prop := ∀ p ∈ s, In64 p.1 ∧ In64 p.2
theorem spE_len {s : List (Int × Int)} (h : In64S s) : (s.flatMap spE).length ≤ 20 * s.length := by
  induction s with
  | nil => simp
  | cons p s ih =>
    have h1 := ih (fun q hq => h q (by simp [hq]))
    have h2 := h p (by simp)
    have h3 := iE_len h2.1
    have h4 := iE_len h2.2
    simp only [List.flatMap_cons, spE, List.length_append, List.length_cons] at h1 ⊢
    omega
theorem setE_len {s : List (Int × Int)} (h : In64S s) (hl : s.length ≤ 1000000) : (setE s).length ≤ 10 + 20 * s.length := by
  have h1 := spE_len h
  have h2 := iE_len (v := (s.length : Int)) ⟨by omega, by omega⟩
  simp only [setE, List.length_append]
  omega
def setEt (s : List (Int × Int)) (i : Nat) : List Int := iE s.length ++ (s.take i).flatMap spE
theorem setEt_succ {s : List (Int × Int)} {i : Nat} {p : Int × Int} (h : s[i]? = some p) : setEt s (i + 1) = setEt s i ++ iE p.1 ++ iE p.2 := by
  unfold setEt
  rw [List.take_add_one, h]
  simp [spE]
theorem iE_ne (v : Int) : iE v ≠ [] := fun h => by
  have := vI_pos (zz v)
  rw [show vI (zz v) = [] from h] at this
  simp at this
theorem f79 (s : List (Int × Int)) (hs : In64S s) (hl : s.length ≤ 1000000) (H : List MB) : call Try.prog pol1 79 [.sl false (s.map spanAV)] H = some (.sl false ((setE s).map B8), H) := by
  refine call_run Try.func79 rfl rfl rfl rfl rfl rfl (fun _ => rfl) (by simp [AV.plain, AV.plainL, plain_span]) (by simp [AV.plain, plain_bytes]) ?_ H
  have h0 : call Try.prog pol1 77 [.rf 0 1 0 0, I s.length] [.row 1 [.agg [.ms 1 1 0 0 0]] 0, .row 1 [] 0] = some (.tup [], [.row 1 [.agg [.ms 1 1 (iE s.length).length 0 (iE s.length).length]] 0, .row 1 ((iE s.length).map B8) 0]) := by
    have := f77 [] [] [] s.length ⟨by omega, by omega⟩ 0 rfl (by omega)
    simp only [Nat.zero_add] at this
    exact this
  simp +contextual (disch := omega) only [Try.f79, dd79, go_sem, ↓reduceIte, evAppend, List.reduceReplicate, Nat.reduceAdd, Nat.reduceSub, reduceCtorEq, evBin, Nat.reduceLeDiff, Nat.reduceMul, Nat.reduceLT, Nat.reduceEqDiff, Int.reduceBNe, Int.reduceBEq, Int.reduceEq, Int.reduceLT, Int.reduceLE, Int.reduceGT, Int.reduceGE, mu79, Nat.reduceBEq, ↓wrap_up, ↓wrap_down, ↓wrap_pred, ↓wrap_sub_nat, Int.reduceToNat, ty71, h0]
  refine W_count (M := (mskOf (pol1.mask 79) (pol1.gc 79) (pol1.acts 79) 0 4)) rfl s.length (fun i => (⟨23, [(11, I i), (10, I s.length), (9, .sl false (s.map spanAV)), (3, .rf 0 1 0 0)], [.row 1 [.agg [.ms 1 1 (setEt s i).length 0 (setEt s i).length]] 0, .row 1 ((setEt s i).map B8) 0]⟩ : St)) (fun _ => True) ?_ ?_ trivial _ ?_
  · intro i hi _
    obtain ⟨p, hp⟩ : ∃ p, s[i]? = some p := ⟨_, List.getElem?_eq_getElem hi⟩
    have hp64 := hs p (List.mem_of_getElem? hp)
    have hb : (setEt s i).length ≤ 10 + 20 * i := by
      have h1 := spE_len (s := s.take i) (fun q hq => hs q (List.mem_of_mem_take hq))
      have h2 := iE_len (v := (s.length : Int)) ⟨by omega, by omega⟩
      simp only [setEt, List.length_append, List.length_take] at h1 ⊢
      omega
    rw [setEt_succ hp]
    generalize setEt s i = X at *
    have b1 := iE_len hp64.1
    have h1 : ∀ K, call Try.prog pol1 77 [.rf 0 1 0 0, I p.1] (.row 1 [.agg [.ms 1 1 X.length 0 X.length]] 0 :: .row 1 (X.map B8) 0 :: K) = _ := fun K => f77 [] K X p.1 hp64.1 _ rfl (by omega)
    have h2 : ∀ K, call Try.prog pol1 77 [.rf 0 1 0 0, I p.2] (.row 1 [.agg [.ms 1 1 (X.length + (iE p.1).length) 0 (X.length + (iE p.1).length)]] 0 :: .row 1 ((X ++ iE p.1).map B8) 0 :: K) = _ := fun K => f77 [] K (X ++ iE p.1) p.2 hp64.2 _ (by simp) (by omega)
    simp +contextual (disch := omega) only [Try.f79, dd79, go_sem, ↓reduceIte, evAppend, List.reduceReplicate, Nat.reduceAdd, Nat.reduceSub, reduceCtorEq, evBin, Nat.reduceLeDiff, Nat.reduceMul, Nat.reduceLT, Nat.reduceEqDiff, Int.reduceBNe, Int.reduceBEq, Int.reduceEq, Int.reduceLT, Int.reduceLE, Int.reduceGT, Int.reduceGE, mu79, Nat.reduceBEq, ↓wrap_up, ↓wrap_down, ↓wrap_pred, ↓wrap_sub_nat, Int.reduceToNat, hp, spanAV, h1, h2, List.length_nil, List.nil_append]
    exact (by first | rfl | (refine prep_to (n := 2) (m := ⟨some [11, 10, 9, 3], some 2, []⟩) rfl rfl ?_ ?_ ?_ <;> first | rfl | (simp [keepT, AV.underL, AV.under, MB.under, underL_plain, under_plain, underL_append, plain_ints, plain_span, plain_ins, plain_prg, -List.map_take, -List.map_replicate, -List.map_set, plain_bytes]; done) | (simp [keepT, AV.underL, AV.under, MB.under, underL_plain, under_plain, underL_append, plain_ints, plain_span, plain_ins, plain_prg, -List.map_take, -List.map_replicate, -List.map_set, plain_bytes]; omega)))
  · intro _
    have he : setEt s s.length = setE s := by simp [setEt, setE]
    rw [he]
    have hb := setE_len hs hl
    have h1 : call Try.prog pol1 36 [.rf 0 1 0 0] [.row 1 [.agg [.ms 1 1 (setE s).length 0 (setE s).length]] 0, .row 1 ((setE s).map B8) 0] = _ := f36 [] [] (setE s) _ rfl (by omega) (by simp [setE, iE_ne])
    simp +contextual (disch := omega) only [Try.f79, dd79, go_sem, ↓reduceIte, evAppend, List.reduceReplicate, Nat.reduceAdd, Nat.reduceSub, reduceCtorEq, evBin, Nat.reduceLeDiff, Nat.reduceMul, Nat.reduceLT, Nat.reduceEqDiff, Int.reduceBNe, Int.reduceBEq, Int.reduceEq, Int.reduceLT, Int.reduceLE, Int.reduceGT, Int.reduceGE, mu79, Nat.reduceBEq, ↓wrap_up, ↓wrap_down, ↓wrap_pred, ↓wrap_sub_nat, Int.reduceToNat, h1]
    exact fzEq (by simp [AV.plain, plain_bytes]) rfl
  · simp only [setEt, List.take_zero, List.flatMap_nil, List.append_nil]
    exact (by first | rfl | (refine prep_cut rfl (by rfl) (by rfl) (by rfl) ?_ ?_ <;> simp [AV.underL, AV.under, MB.under, underL_plain, under_plain, plain_ints, plain_span, plain_ins, plain_prg, -List.map_take, plain_bytes]))
end
section
attribute [local go_sem] evAppend evBin ty33 ty35 ty74 ty104
open Go.Proofs Go.RowKit Go.IntWalk
set_option maxRecDepth 100000
set_option linter.unusedSimpArgs false
set_option linter.unusedVariables false
set_option maxHeartbeats 8000000

/-- An instruction of which all numbers are numbers of the machine. -/
structure In64I (i : Ins) : Prop where
  op : In64 i.op
  x : In64 i.x
  y : In64 i.y
  n : In64 i.n
  set : In64S i.set
  len : i.set.length ≤ 1000
theorem insE_len {i : Ins} (h : In64I i) : (insE i).length ≤ 20060 := by
  have h1 := iE_len h.op
  have h2 := iE_len h.x
  have h3 := iE_len h.y
  have h4 := iE_len h.n
  have h5 := h.len
  have h6 := setE_len h.set (by omega)
  have h7 := vI_len10 (n := (setE i.set).length) (by omega)
  unfold insE rawE
  split <;> simp only [List.length_append, List.length_nil] <;> omega
theorem inssE_len {l : List Ins} (h : ∀ i ∈ l, In64I i) : (l.flatMap insE).length ≤ 20060 * l.length := by
  induction l with
  | nil => simp
  | cons i l ih =>
    have h1 := ih (fun q hq => h q (by simp [hq]))
    have h2 := insE_len (h i (by simp))
    simp only [List.flatMap_cons, List.length_append, List.length_cons]
    omega
structure In64P (g : Prg) : Prop where
  caps : In64 g.caps
  ins : ∀ i ∈ g.ins, In64I i
  len : g.ins.length ≤ 10000
def prgEt (g : Prg) (i : Nat) : List Int := iE g.caps ++ boolE g.runes ++ iE g.ins.length ++ (g.ins.take i).flatMap insE
theorem prgEt_succ {g : Prg} {i : Nat} {p : Ins} (h : g.ins[i]? = some p) : prgEt g (i + 1) = prgEt g i ++ insE p := by
  unfold prgEt
  rw [List.take_add_one, h]
  simp
theorem prgEt_len {g : Prg} (h : In64P g) (i : Nat) : (prgEt g i).length ≤ 210000000 := by
  have h1 := inssE_len (l := g.ins.take i) (fun q hq => h.ins q (List.mem_of_mem_take hq))
  have h2 := iE_len h.caps
  have h4 := h.len
  have h3 := iE_len (v := (g.ins.length : Int)) ⟨by omega, by omega⟩
  simp only [prgEt, boolE, List.length_append, List.length_take, List.length_cons, List.length_nil] at h1 ⊢
  omega
theorem prgE_len {g : Prg} (h : In64P g) : (prgE g).length ≤ 210000000 := by
  have := prgEt_len h g.ins.length
  rwa [show prgEt g g.ins.length = prgE g by simp [prgEt, prgE]] at this

abbrev gB (g : Prg) : MB := .row 3 [.agg [.sl false (g.ins.map insAV), I g.caps, .bool g.runes]] 0
theorem f33 (g : Prg) (hg : In64P g) (H : List MB) : call Try.prog pol1 33 [.agg [.sl false (g.ins.map insAV), I g.caps, .bool g.runes]] H = some (.sl false ((prgE g).map B8), H) := by
  refine call_run Try.func33 rfl rfl rfl rfl rfl rfl (fun _ => rfl) (by simp [AV.plain, AV.plainL, plain_ins]) (by simp [AV.plain, plain_bytes]) ?_ H
  have hgl := hg.len
  have b0 := iE_len hg.caps
  have b1 := iE_len (v := (g.ins.length : Int)) ⟨by omega, by omega⟩
  have h77 : ∀ (K : List MB) (bs : List Int) (v : Int), In64 v → ∀ n, bs.length = n → n ≤ 1000000000 → call Try.prog pol1 77 [.rf 1 1 0 0, I v] (gB g :: .row 1 [.agg [.ms 2 1 n 0 n]] 0 :: .row 1 (bs.map B8) 0 :: K) = _ := fun K bs v hv n hn hb => f77 [gB g] K bs v hv n hn hb
  have e0 := h77 [] [] g.caps hg.caps 0 rfl (by omega)
  have e1 : call Try.prog pol1 78 [.rf 1 1 0 0, .bool g.runes] (gB g :: .row 1 [.agg [.ms 2 1 (0 + (iE g.caps).length) 0 (0 + (iE g.caps).length)]] 0 :: .row 1 (([] ++ iE g.caps).map B8) 0 :: []) = _ := f78 [gB g] [] ([] ++ iE g.caps) g.runes _ (by simp) (by omega)
  have e2 := h77 [] ([] ++ iE g.caps ++ boolE g.runes) g.ins.length ⟨by omega, by omega⟩ (0 + (iE g.caps).length + 1) (by simp [boolE]) (by omega)
  have hz : [] ++ iE g.caps ++ boolE g.runes ++ iE g.ins.length = prgEt g 0 := by simp [prgEt]
  have hzl : 0 + (iE g.caps).length + 1 + (iE g.ins.length).length = (prgEt g 0).length := by simp [prgEt, boolE]; omega
  simp only [wrH, hz, hzl, List.singleton_append, List.length_singleton, List.nil_append, List.map_nil, Nat.reduceAdd, Nat.zero_add] at e0 e1 e2
  simp only [wrH, List.singleton_append, List.length_singleton, Nat.reduceAdd] at h77
  simp +contextual (disch := omega) only [Try.f33, dd33, go_sem, ↓reduceIte, List.reduceReplicate, Nat.reduceAdd, Nat.reduceSub, reduceCtorEq, Nat.reduceLeDiff, Nat.reduceMul, Nat.reduceLT, Nat.reduceEqDiff, Int.reduceBNe, Int.reduceBEq, Int.reduceEq, Int.reduceLT, Int.reduceLE, Int.reduceGT, Int.reduceGE, mu33, Nat.reduceBEq, ↓wrap_up, ↓wrap_down, ↓wrap_pred, ↓wrap_sub_nat, Int.reduceToNat, ty71, e0, e1, e2]
  refine W_count (M := (mskOf (pol1.mask 33) (pol1.gc 33) (pol1.acts 33) 0 6)) rfl g.ins.length (fun i => (⟨44, [(19, I i), (18, I g.ins.length), (17, .sl false (g.ins.map insAV)), (3, .rf 1 1 0 0)], [gB g, .row 1 [.agg [.ms 2 1 (prgEt g i).length 0 (prgEt g i).length]] 0, .row 1 ((prgEt g i).map B8) 0]⟩ : St)) (fun _ => True) ?_ ?_ trivial _ ?_
  · intro i hi _
    obtain ⟨p, hp⟩ : ∃ p, g.ins[i]? = some p := ⟨_, List.getElem?_eq_getElem hi⟩
    have hpi := hg.ins p (List.mem_of_getElem? hp)
    have hb := prgEt_len hg i
    rw [prgEt_succ hp]
    generalize prgEt g i = X at *
    have c1 := iE_len hpi.op
    have c2 := iE_len hpi.x
    have c3 := iE_len hpi.y
    have c4 := iE_len hpi.n
    have h1 := fun K => h77 K X p.op hpi.op _ rfl (by omega)
    have h2 := fun K => h77 K (X ++ iE p.op) p.x hpi.x (X.length + (iE p.op).length) (by simp) (by omega)
    have h3 := fun K => h77 K (X ++ iE p.op ++ iE p.x) p.y hpi.y (X.length + (iE p.op).length + (iE p.x).length) (by simp; omega) (by omega)
    have h4 := fun K => h77 K (X ++ iE p.op ++ iE p.x ++ iE p.y) p.n hpi.n (X.length + (iE p.op).length + (iE p.x).length + (iE p.y).length) (by simp; omega) (by omega)
    by_cases h1op : p.op = 1
    · have h79 := f79 p.set hpi.set (by have := hpi.len; omega)
      have hsl := setE_len hpi.set (by have := hpi.len; omega)
      have hpl := hpi.len
      have h34 : ∀ K, call Try.prog pol1 34 [.rf 1 1 0 0, .sl false ((setE p.set).map B8)] (gB g :: .row 1 [.agg [.ms 2 1 (X.length + (iE p.op).length + (iE p.x).length + (iE p.y).length + (iE p.n).length) 0 (X.length + (iE p.op).length + (iE p.x).length + (iE p.y).length + (iE p.n).length)]] 0 :: .row 1 ((X ++ iE p.op ++ iE p.x ++ iE p.y ++ iE p.n).map B8) 0 :: K) = _ :=
        fun K => f34 [gB g] K (X ++ iE p.op ++ iE p.x ++ iE p.y ++ iE p.n) (setE p.set) (X.length + (iE p.op).length + (iE p.x).length + (iE p.y).length + (iE p.n).length) (by simp; omega) (by omega) (by omega)
      simp only [wrH, List.singleton_append, List.length_singleton, Nat.reduceAdd] at h34
      have hI : insE p = iE p.op ++ iE p.x ++ iE p.y ++ iE p.n ++ rawE (setE p.set) := by rw [insE, if_pos h1op]
      rw [hI]
      obtain ⟨op, x, y, n, set⟩ := p
      simp only at h1op
      subst h1op
      simp +contextual (disch := omega) only [Try.f33, dd33, go_sem, ↓reduceIte, List.reduceReplicate, Nat.reduceAdd, Nat.reduceSub, reduceCtorEq, Nat.reduceLeDiff, Nat.reduceMul, Nat.reduceLT, Nat.reduceEqDiff, Int.reduceBNe, Int.reduceBEq, Int.reduceEq, Int.reduceLT, Int.reduceLE, Int.reduceGT, Int.reduceGE, mu33, Nat.reduceBEq, ↓wrap_up, ↓wrap_down, ↓wrap_pred, ↓wrap_sub_nat, Int.reduceToNat, hp, h1, h2, h3, h4, h34, h79]
      simp only [← List.append_assoc, List.length_append, ← Nat.add_assoc]
      exact (by first | rfl | (refine prep_to (n := 3) (m := ⟨some [19, 18, 17, 3], some 3, []⟩) rfl rfl ?_ ?_ ?_ <;> first | rfl | (simp [keepT, AV.underL, AV.under, MB.under, underL_plain, under_plain, underL_append, plain_ints, plain_span, plain_ins, plain_prg, -List.map_take, -List.map_replicate, -List.map_set, plain_bytes]; done) | (simp [keepT, AV.underL, AV.under, MB.under, underL_plain, under_plain, underL_append, plain_ints, plain_span, plain_ins, plain_prg, -List.map_take, -List.map_replicate, -List.map_set, plain_bytes]; omega)))
    · have hI : insE p = iE p.op ++ iE p.x ++ iE p.y ++ iE p.n := by rw [insE, if_neg h1op, List.append_nil]
      rw [hI]
      simp +contextual (disch := omega) only [Try.f33, dd33, go_sem, ↓reduceIte, List.reduceReplicate, Nat.reduceAdd, Nat.reduceSub, reduceCtorEq, Nat.reduceLeDiff, Nat.reduceMul, Nat.reduceLT, Nat.reduceEqDiff, Int.reduceBNe, Int.reduceBEq, Int.reduceEq, Int.reduceLT, Int.reduceLE, Int.reduceGT, Int.reduceGE, mu33, Nat.reduceBEq, ↓wrap_up, ↓wrap_down, ↓wrap_pred, ↓wrap_sub_nat, Int.reduceToNat, hp, h1, h2, h3, h4]
      simp only [← List.append_assoc, List.length_append, ← Nat.add_assoc]
      exact (by first | rfl | (refine prep_to (n := 3) (m := ⟨some [19, 18, 17, 3], some 3, []⟩) rfl rfl ?_ ?_ ?_ <;> first | rfl | (simp [keepT, AV.underL, AV.under, MB.under, underL_plain, under_plain, underL_append, plain_ints, plain_span, plain_ins, plain_prg, -List.map_take, -List.map_replicate, -List.map_set, plain_bytes]; done) | (simp [keepT, AV.underL, AV.under, MB.under, underL_plain, under_plain, underL_append, plain_ints, plain_span, plain_ins, plain_prg, -List.map_take, -List.map_replicate, -List.map_set, plain_bytes]; omega)))
  · intro _
    have he : prgEt g g.ins.length = prgE g := by simp [prgEt, prgE]
    rw [he]
    have hb := prgE_len hg
    have h1 : call Try.prog pol1 36 [.rf 1 1 0 0] (gB g :: .row 1 [.agg [.ms 2 1 (prgE g).length 0 (prgE g).length]] 0 :: .row 1 ((prgE g).map B8) 0 :: []) = _ := f36 [gB g] [] (prgE g) _ rfl (by omega) (by simp [prgE, iE_ne])
    simp +contextual (disch := omega) only [Try.f33, dd33, go_sem, ↓reduceIte, List.reduceReplicate, Nat.reduceAdd, Nat.reduceSub, reduceCtorEq, Nat.reduceLeDiff, Nat.reduceMul, Nat.reduceLT, Nat.reduceEqDiff, Int.reduceBNe, Int.reduceBEq, Int.reduceEq, Int.reduceLT, Int.reduceLE, Int.reduceGT, Int.reduceGE, mu33, Nat.reduceBEq, ↓wrap_up, ↓wrap_down, ↓wrap_pred, ↓wrap_sub_nat, Int.reduceToNat, h1]
    exact fzEq (by simp [AV.plain, plain_bytes]) rfl
  · rw [Nat.zero_add] at hzl
    rw [List.nil_append] at hz
    rw [hz, hzl]
    exact (by first | rfl | (refine prep_to (n := 3) (m := ⟨some [19, 18, 17, 3], some 3, []⟩) rfl rfl ?_ ?_ ?_ <;> first | rfl | (simp [keepT, AV.underL, AV.under, MB.under, underL_plain, under_plain, underL_append, plain_ints, plain_span, plain_ins, plain_prg, -List.map_take, -List.map_replicate, -List.map_set, plain_bytes]; done) | (simp [keepT, AV.underL, AV.under, MB.under, underL_plain, under_plain, underL_append, plain_ints, plain_span, plain_ins, plain_prg, -List.map_take, -List.map_replicate, -List.map_set, plain_bytes]; omega)))
end
section
attribute [local go_sem] ty5 ty86 ty145
open Go.Proofs Go.RowKit Go.IntWalk
set_option maxRecDepth 100000
set_option linter.unusedSimpArgs false
set_option linter.unusedVariables false
set_option maxHeartbeats 8000000

theorem f37 (a b : List Int) (ha : a.length ≤ 1000000000) (hb : b.length ≤ 1000000000) (H : List MB) : call Try.prog pol1 37 [.sl false (a.map B8), .sl false (b.map B8)] H = some (.bool (decide (a = b)), H) := by
  refine call_run Try.func37 rfl rfl rfl rfl rfl rfl (fun _ => rfl) (by simp [AV.plain, AV.plainL, plain_bytes]) rfl ?_ H
  by_cases hl : a.length = b.length
  · simp +contextual (disch := omega) only [Try.f37, dd37, go_sem, ↓reduceIte, evAppend, List.reduceReplicate, Nat.reduceAdd, Nat.reduceSub, reduceCtorEq, evBin, Nat.reduceLeDiff, Nat.reduceMul, Nat.reduceLT, Nat.reduceEqDiff, Int.reduceBNe, Int.reduceBEq, Int.reduceEq, Int.reduceLT, Int.reduceLE, Int.reduceGT, Int.reduceGE, List.map_append, mu37, Nat.reduceBEq, ↓wrap_up, ↓wrap_down, ↓wrap_pred, ↓wrap_sub_nat, Int.reduceToNat, hl]
    refine W_count (M := (mskOf (pol1.mask 37) (pol1.gc 37) (pol1.acts 37) 0 4)) rfl b.length (fun i => (⟨26, [(5, I i), (1, .sl false (b.map B8)), (0, .sl false (a.map B8))], []⟩ : St)) (fun i => a.take i = b.take i) ?_ ?_ rfl _ (by first | rfl | (refine prep_cut rfl (by rfl) (by rfl) (by rfl) ?_ ?_ <;> simp [AV.underL, AV.under, MB.under, underL_plain, under_plain, plain_ints, plain_span, plain_ins, plain_prg, -List.map_take, plain_bytes]))
    · intro i hi hg
      obtain ⟨x, hx⟩ : ∃ x, a[i]? = some x := ⟨_, List.getElem?_eq_getElem (by omega)⟩
      obtain ⟨y, hy⟩ : ∃ y, b[i]? = some y := ⟨_, List.getElem?_eq_getElem (by omega)⟩
      by_cases hxy : x = y
      · subst hxy
        simp +contextual (disch := omega) only [Try.f37, dd37, go_sem, ↓reduceIte, evAppend, List.reduceReplicate, Nat.reduceAdd, Nat.reduceSub, reduceCtorEq, evBin, Nat.reduceLeDiff, Nat.reduceMul, Nat.reduceLT, Nat.reduceEqDiff, Int.reduceBNe, Int.reduceBEq, Int.reduceEq, Int.reduceLT, Int.reduceLE, Int.reduceGT, Int.reduceGE, List.map_append, mu37, Nat.reduceBEq, ↓wrap_up, ↓wrap_down, ↓wrap_pred, ↓wrap_sub_nat, Int.reduceToNat, hx, hy, hl]
        repeat' (first | intro _ | apply And.intro | (unfold dOk; kernel_rfl) | exact St.beq_refl _ | (show altO _ _ _ _ = true; kernel_rfl) | (show (_ || _) = true; kernel_rfl) | (show (_ && _) = true; kernel_rfl))
        all_goals first | exact (by first | rfl | (refine prep_cut rfl (by rfl) (by rfl) (by rfl) ?_ ?_ <;> simp [AV.underL, AV.under, MB.under, underL_plain, under_plain, plain_ints, plain_span, plain_ins, plain_prg, -List.map_take, plain_bytes])) | (rw [List.take_add_one, List.take_add_one, hx, hy, hg])
      · have hne : a ≠ b := fun h => hxy (by rw [h, hy] at hx; exact (Option.some.inj hx).symm)
        simp +contextual (disch := omega) only [Try.f37, dd37, go_sem, ↓reduceIte, evAppend, List.reduceReplicate, Nat.reduceAdd, Nat.reduceSub, reduceCtorEq, evBin, Nat.reduceLeDiff, Nat.reduceMul, Nat.reduceLT, Nat.reduceEqDiff, Int.reduceBNe, Int.reduceBEq, Int.reduceEq, Int.reduceLT, Int.reduceLE, Int.reduceGT, Int.reduceGE, List.map_append, mu37, Nat.reduceBEq, ↓wrap_up, ↓wrap_down, ↓wrap_pred, ↓wrap_sub_nat, Int.reduceToNat, hx, hy, hl, hne]
        repeat' (first | intro _ | apply And.intro | (unfold dOk; kernel_rfl) | exact St.beq_refl _ | (show altO _ _ _ _ = true; kernel_rfl) | (show (_ || _) = true; kernel_rfl) | (show (_ && _) = true; kernel_rfl))
        all_goals exact fzEq rfl (by simp [hne])
    · intro hg
      have he : a = b := by
        rw [← List.take_length (l := b), ← hg, List.take_of_length_le (by omega)]
      simp +contextual (disch := omega) only [Try.f37, dd37, go_sem, ↓reduceIte, evAppend, List.reduceReplicate, Nat.reduceAdd, Nat.reduceSub, reduceCtorEq, evBin, Nat.reduceLeDiff, Nat.reduceMul, Nat.reduceLT, Nat.reduceEqDiff, Int.reduceBNe, Int.reduceBEq, Int.reduceEq, Int.reduceLT, Int.reduceLE, Int.reduceGT, Int.reduceGE, List.map_append, mu37, Nat.reduceBEq, ↓wrap_up, ↓wrap_down, ↓wrap_pred, ↓wrap_sub_nat, Int.reduceToNat, hl]
      exact fzEq rfl (by simp [he])
  · have hne : a ≠ b := fun h => hl (by rw [h])
    simp +contextual (disch := omega) only [Try.f37, dd37, go_sem, ↓reduceIte, evAppend, List.reduceReplicate, Nat.reduceAdd, Nat.reduceSub, reduceCtorEq, evBin, Nat.reduceLeDiff, Nat.reduceMul, Nat.reduceLT, Nat.reduceEqDiff, Int.reduceBNe, Int.reduceBEq, Int.reduceEq, Int.reduceLT, Int.reduceLE, Int.reduceGT, Int.reduceGE, List.map_append, mu37, Nat.reduceBEq, ↓wrap_up, ↓wrap_down, ↓wrap_pred, ↓wrap_sub_nat, Int.reduceToNat]
    exact fzEq rfl (by simp [hne])

theorem f127 (v : Int) (hv : In64 v) (H : List MB) : call Try.prog pol1 127 [I v] H = some (.int .u64 (zz v : Nat), H) := by
  refine call_run Try.func127 rfl rfl rfl rfl rfl rfl (fun _ => rfl) (by simp [AV.plain, AV.plainL, plain_ints, plain_span, plain_ins, plain_prg]) (by simp [AV.plain, AV.plainL, plain_ints, plain_span, plain_ins, plain_prg]) ?_ H
  unfold In64 at hv
  have e1 : v < 0 → IntKind.u64.wrap (IntKind.u64.wrap (2 * IntKind.u64.wrap (IntKind.i64.wrap (0 - IntKind.i64.wrap (v + 1)))) + 1) = (zz v : Nat) := fun h => by
    rw [IntKind.wrap_u64, IntKind.wrap_u64, IntKind.wrap_u64, i64_in (v + 1) (by omega), i64_in _ (by omega)]
    unfold zz; rw [if_pos h]; omega
  have e2 : ¬ v < 0 → IntKind.u64.wrap (2 * IntKind.u64.wrap v) = (zz v : Nat) := fun h => by
    rw [IntKind.wrap_u64, IntKind.wrap_u64]
    unfold zz; rw [if_neg h]; omega
  by_cases h : v < 0
  · have e1 := e1 h
    simp only [Try.f127, dd127, go_sem, ↓reduceIte, evAppend, List.reduceReplicate, Nat.reduceAdd, Nat.reduceSub, reduceCtorEq, evBin, Nat.reduceLeDiff, Nat.reduceMul, Nat.reduceLT, Nat.reduceEqDiff, Int.reduceBNe, Int.reduceBEq, Int.reduceEq, Int.reduceLT, Int.reduceLE, Int.reduceGT, Int.reduceGE, List.map_append, mu127, Nat.reduceBEq, dlt_t h, e1]
    exact fzEq rfl rfl
  · have e2 := e2 h
    simp only [Try.f127, dd127, go_sem, ↓reduceIte, evAppend, List.reduceReplicate, Nat.reduceAdd, Nat.reduceSub, reduceCtorEq, evBin, Nat.reduceLeDiff, Nat.reduceMul, Nat.reduceLT, Nat.reduceEqDiff, Int.reduceBNe, Int.reduceBEq, Int.reduceEq, Int.reduceLT, Int.reduceLE, Int.reduceGT, Int.reduceGE, List.map_append, mu127, Nat.reduceBEq, dlt_f (Int.not_lt.1 h), e2]
    exact fzEq rfl rfl
/-- The bytes of a varint, in a block of its own. -/
theorem f126 (v : Nat) (hv : v < 18446744073709551616) (H : List MB) : call Try.prog pol1 126 [.int .u64 v] H = some (.ms H.length 1 (vI v).length 0 (vI v).length, H ++ [.row 1 ((vI v).map B8) 0]) := by
  refine call_runO Try.func126 rfl rfl rfl rfl (fun _ => rfl) rfl (plain_bytes _) ?_ H
  have h0 := vI_len10 hv
  simp +contextual (disch := omega) only [Try.f126, dd126, go_sem, ↓reduceIte, List.reduceReplicate, Nat.reduceAdd, Nat.reduceSub, reduceCtorEq, Nat.reduceLeDiff, Nat.reduceMul, Nat.reduceLT, Nat.reduceEqDiff, Int.reduceBNe, Int.reduceBEq, Int.reduceEq, Int.reduceLT, Int.reduceLE, Int.reduceGT, Int.reduceGE, List.map_append, mu126, Nat.reduceBEq, ↓wrap_up, ↓wrap_down, ↓wrap_pred, ↓wrap_sub_nat, Int.reduceToNat, evB_gtr]
  refine W_for (σ := Nat × List Int) (M := (mskOf (pol1.mask 126) (pol1.gc 126) (pol1.acts 126) 0 2)) rfl (fun x => (⟨20, [(3, .ms 0 1 x.2.length 0 x.2.length), (0, .int .u64 (x.1 : Nat))], [.row 1 (x.2.map B8) 0]⟩ : St)) (fun x => x.1 ≤ v ∧ x.2 ++ vI x.1 = vI v) (fun x => x.1) (v, []) ?_ ⟨Nat.le_refl _, rfl⟩ _ ?_
  · rintro ⟨w, cs⟩ ⟨hw, he⟩
    simp only at hw he ⊢
    have hl : cs.length + (vI w).length = (vI v).length := by rw [← he, List.length_append]
    have hp := vI_pos w
    have happ := fun c => app_b1 (H := [.row 1 (cs.map B8) 0]) (i := 0) (n := cs.length) (z := 0) (bs := cs) (c := c) (t := true) rfl rfl (Nat.zero_le _) (by omega)
    by_cases hg : 128 ≤ w
    · have ho : IntKind.u8.wrap (IntKind.u64.wrap (128 + (w : Int) % 128)) = ((128 + w % 128 : Nat) : Int) := by
        rw [IntKind.wrap_u64, IntKind.wrap_u8]; omega
      have hq : IntKind.u64.wrap ((w : Int).tdiv 128) = ((w / 128 : Nat) : Int) := by
        rw [Int.tdiv_eq_ediv_of_nonneg (by omega), IntKind.wrap_u64]; omega
      rw [vI_ge hg] at he
      simp +contextual (disch := omega) only [Try.f126, dd126, go_sem, ↓reduceIte, List.reduceReplicate, Nat.reduceAdd, Nat.reduceSub, reduceCtorEq, evBin, Nat.reduceLeDiff, Nat.reduceMul, Nat.reduceLT, Nat.reduceEqDiff, Int.reduceBNe, Int.reduceBEq, Int.reduceEq, Int.reduceLT, Int.reduceLE, Int.reduceGT, Int.reduceGE, List.map_append, mu126, Nat.reduceBEq, ↓wrap_up, ↓wrap_down, ↓wrap_pred, ↓wrap_sub_nat, Int.reduceToNat, ho, hq, happ]
      refine ⟨(w / 128, cs ++ [((128 + w % 128 : Nat) : Int)]), ⟨?_, ?_⟩, ?_, ?_⟩
      · show w / 128 ≤ v; omega
      · rw [← he]; simp
      · show w / 128 < w; omega
      · rw [List.length_append, List.map_append]
        exact (by first | rfl | (refine prep_cut rfl (by rfl) (by rfl) (by rfl) ?_ ?_ <;> simp [AV.underL, AV.under, MB.under, underL_plain, under_plain, plain_ints, plain_span, plain_ins, plain_prg, -List.map_take, plain_bytes, underL_append]))
    · have hc := w8_in (n := w) (by omega)
      rw [vI_lt (by omega)] at he
      simp +contextual (disch := omega) only [Try.f126, dd126, go_sem, ↓reduceIte, List.reduceReplicate, Nat.reduceAdd, Nat.reduceSub, reduceCtorEq, evBin, Nat.reduceLeDiff, Nat.reduceMul, Nat.reduceLT, Nat.reduceEqDiff, Int.reduceBNe, Int.reduceBEq, Int.reduceEq, Int.reduceLT, Int.reduceLE, Int.reduceGT, Int.reduceGE, List.map_append, mu126, Nat.reduceBEq, ↓wrap_up, ↓wrap_down, ↓wrap_pred, ↓wrap_sub_nat, Int.reduceToNat, hc, happ]
      have hm : List.map B8 cs ++ [B8 (w : Int)] = (vI v).map B8 := by rw [← he]; simp
      have hl2 : cs.length + 1 = (vI v).length := by rw [← he]; simp
      rw [hm, hl2]
      exact retPol_own rfl rfl rfl (by rw [List.length_map]) (fzs_plain _ (plain_bytes _)) rfl (plain_bytes _) (by rw [List.length_map])
  · exact (by first | rfl | (refine prep_cut rfl (by rfl) (by rfl) (by rfl) ?_ ?_ <;> simp [AV.underL, AV.under, MB.under, underL_plain, under_plain, plain_ints, plain_span, plain_ins, plain_prg, -List.map_take]))
theorem f81 (v : Int) (hv : In64 v) (H : List MB) : call Try.prog pol1 81 [I v] H = some (.ms H.length 1 (iE v).length 0 (iE v).length, H ++ [.row 1 ((iE v).map B8) 0]) := by
  refine call_runO Try.func81 rfl rfl rfl rfl (fun _ => rfl) rfl (plain_bytes _) ?_ H
  have h1 := f127 v hv []
  have h2 := f126 (zz v) (zz_lt hv) []
  simp only [List.length_nil, List.nil_append] at h2
  simp +contextual (disch := omega) only [Try.f81, dd81, go_sem, ↓reduceIte, evAppend, List.reduceReplicate, Nat.reduceAdd, Nat.reduceSub, reduceCtorEq, evBin, Nat.reduceLeDiff, Nat.reduceMul, Nat.reduceLT, Nat.reduceEqDiff, Int.reduceBNe, Int.reduceBEq, Int.reduceEq, Int.reduceLT, Int.reduceLE, Int.reduceGT, Int.reduceGE, mu81, Nat.reduceBEq, ↓wrap_up, ↓wrap_down, ↓wrap_pred, ↓wrap_sub_nat, Int.reduceToNat, h1, h2]
  exact retPol_own rfl rfl rfl (by rw [List.length_map]) (fzs_plain _ (plain_bytes _)) rfl (plain_bytes _) (by rw [List.length_map]; rfl)
theorem f82 (b : Bool) (H : List MB) : call Try.prog pol1 82 [.bool b] H = some (.sl false ((boolE b).map B8), H) := by
  refine call_run Try.func82 rfl rfl rfl rfl rfl rfl (fun _ => rfl) rfl (by simp [AV.plain, plain_bytes]) ?_ H
  cases b
  · simp +contextual (disch := omega) only [Try.f82, dd82, go_sem, ↓reduceIte, evAppend, List.reduceReplicate, Nat.reduceAdd, Nat.reduceSub, reduceCtorEq, evBin, Nat.reduceLeDiff, Nat.reduceMul, Nat.reduceLT, Nat.reduceEqDiff, Int.reduceBNe, Int.reduceBEq, Int.reduceEq, Int.reduceLT, Int.reduceLE, Int.reduceGT, Int.reduceGE, List.map_append, mu82, Nat.reduceBEq, ↓wrap_up, ↓wrap_down, ↓wrap_pred, ↓wrap_sub_nat, Int.reduceToNat, ty5]
    exact ⟨_, rfl⟩
  · simp +contextual (disch := omega) only [Try.f82, dd82, go_sem, ↓reduceIte, evAppend, List.reduceReplicate, Nat.reduceAdd, Nat.reduceSub, reduceCtorEq, evBin, Nat.reduceLeDiff, Nat.reduceMul, Nat.reduceLT, Nat.reduceEqDiff, Int.reduceBNe, Int.reduceBEq, Int.reduceEq, Int.reduceLT, Int.reduceLE, Int.reduceGT, Int.reduceGE, List.map_append, mu82, Nat.reduceBEq, ↓wrap_up, ↓wrap_down, ↓wrap_pred, ↓wrap_sub_nat, Int.reduceToNat, ty5]
    exact ⟨_, rfl⟩
theorem f83 (b : List Int) (hb : b.length ≤ 1000000000) (H : List MB) : call Try.prog pol1 83 [.sl false (b.map B8)] H = some (.sl false ((rawE b).map B8), H) := by
  refine call_run Try.func83 rfl rfl rfl rfl rfl rfl (fun _ => rfl) (by simp [AV.plain, AV.plainL, plain_bytes]) (by simp [AV.plain, plain_bytes]) ?_ H
  have h2 := f126 b.length (by omega) []
  simp only [List.length_nil, List.nil_append] at h2
  have hw := w64_in (n := b.length) (by omega)
  have hl := vI_len10 (n := b.length) (by omega)
  have happ := app_b (H := [.row 1 ((vI b.length).map B8) 0]) (i := 0) (n := (vI b.length).length) (z := 0) (bs := vI b.length) (cs := b) (t := false) rfl rfl (Nat.zero_le _) (by omega)
  simp +contextual (disch := omega) only [Try.f83, dd83, go_sem, ↓reduceIte, List.reduceReplicate, Nat.reduceAdd, Nat.reduceSub, reduceCtorEq, evBin, Nat.reduceLeDiff, Nat.reduceMul, Nat.reduceLT, Nat.reduceEqDiff, Int.reduceBNe, Int.reduceBEq, Int.reduceEq, Int.reduceLT, Int.reduceLE, Int.reduceGT, Int.reduceGE, mu83, Nat.reduceBEq, ↓wrap_up, ↓wrap_down, ↓wrap_pred, ↓wrap_sub_nat, Int.reduceToNat, hw, h2, happ]
  exact ⟨_, fz_row rfl (by simp [rawE]) (plain_bytes _)⟩
theorem app_bm {H : List MB} {i n z j m z' : Nat} {bs cs : List Int} (hi : getRow H i = some (1, bs.map B8, z)) (hn : bs.length = n) (hz : z ≤ n) (hj : getRow H j = some (1, cs.map B8, z')) (hm : cs.length = m) (hr : n + m ≤ 4000000000) :
    evAppend Try.prog H 71 71 (.ms i 1 n 0 n) (.ms j 1 m 0 m) = some (.ms i 1 (n + m) 0 (n + m), H.set i (.row 1 ((bs ++ cs).map B8) z)) := by
  rw [evAppend_end (e := 5) (by kernel_rfl) (by kernel_rfl) (k := 1) (by kernel_rfl) (by_ := 1) (by kernel_rfl) (ze := B8 0) (by kernel_rfl) rfl (by omega) (src_ms hj hm) (bytes_ok cs) hi (by rw [List.length_map]; exact hn) hz (room_ok (by rw [List.length_map]; omega) (by omega))]
  rw [List.length_map, List.map_append, hm]
theorem f84 (s : List (Int × Int)) (hs : In64S s) (hl : s.length ≤ 1000000) (H : List MB) : call Try.prog pol1 84 [.sl false (s.map spanAV)] H = some (.sl false ((setE s).map B8), H) := by
  refine call_run Try.func84 rfl rfl rfl rfl rfl rfl (fun _ => rfl) (by simp [AV.plain, AV.plainL, plain_span]) (by simp [AV.plain, plain_bytes]) ?_ H
  have h0 := f81 s.length ⟨by omega, by omega⟩ []
  simp only [List.length_nil, List.nil_append] at h0
  simp +contextual (disch := omega) only [Try.f84, dd84, go_sem, ↓reduceIte, List.reduceReplicate, Nat.reduceAdd, Nat.reduceSub, reduceCtorEq, evBin, Nat.reduceLeDiff, Nat.reduceMul, Nat.reduceLT, Nat.reduceEqDiff, Int.reduceBNe, Int.reduceBEq, Int.reduceEq, Int.reduceLT, Int.reduceLE, Int.reduceGT, Int.reduceGE, mu84, Nat.reduceBEq, ↓wrap_up, ↓wrap_down, ↓wrap_pred, ↓wrap_sub_nat, Int.reduceToNat, h0]
  refine W_count (M := (mskOf (pol1.mask 84) (pol1.gc 84) (pol1.acts 84) 0 3)) rfl s.length (fun i => (⟨31, [(4, I i), (3, .ms 0 1 (setEt s i).length 0 (setEt s i).length), (0, .sl false (s.map spanAV))], [.row 1 ((setEt s i).map B8) 0]⟩ : St)) (fun _ => True) ?_ ?_ trivial _ ?_
  · intro i hi _
    obtain ⟨p, hp⟩ : ∃ p, s[i]? = some p := ⟨_, List.getElem?_eq_getElem hi⟩
    have hp64 := hs p (List.mem_of_getElem? hp)
    have hb : (setEt s i).length ≤ 10 + 20 * i := by
      have h1 := spE_len (s := s.take i) (fun q hq => hs q (List.mem_of_mem_take hq))
      have h2 := iE_len (v := (s.length : Int)) ⟨by omega, by omega⟩
      simp only [setEt, List.length_append, List.length_take] at h1 ⊢
      omega
    rw [setEt_succ hp]
    generalize setEt s i = X at *
    have b1 := iE_len hp64.1
    have b2 := iE_len hp64.2
    have h1 := f81 p.1 hp64.1
    have h2 := f81 p.2 hp64.2
    have a1 := app_bm (H := [.row 1 (X.map B8) 0, .row 1 ((iE p.1).map B8) 0]) (i := 0) (n := X.length) (z := 0) (j := 1) (z' := 0) (bs := X) (cs := iE p.1) rfl rfl (Nat.zero_le _) rfl rfl (by omega)
    have a2 := fun B => app_bm (H := [.row 1 ((X ++ iE p.1).map B8) 0, B, .row 1 ((iE p.2).map B8) 0]) (i := 0) (n := X.length + (iE p.1).length) (z := 0) (j := 2) (z' := 0) (bs := X ++ iE p.1) (cs := iE p.2) rfl (by simp) (Nat.zero_le _) rfl rfl (by omega)
    simp +contextual (disch := omega) only [Try.f84, dd84, go_sem, ↓reduceIte, List.reduceReplicate, Nat.reduceAdd, Nat.reduceSub, reduceCtorEq, evBin, Nat.reduceLeDiff, Nat.reduceMul, Nat.reduceLT, Nat.reduceEqDiff, Int.reduceBNe, Int.reduceBEq, Int.reduceEq, Int.reduceLT, Int.reduceLE, Int.reduceGT, Int.reduceGE, mu84, Nat.reduceBEq, ↓wrap_up, ↓wrap_down, ↓wrap_pred, ↓wrap_sub_nat, Int.reduceToNat, hp, spanAV, h1, h2, a1, a2]
    try simp only [← List.append_assoc, List.length_append, ← Nat.add_assoc]
    exact (by first | rfl | (refine prep_to (n := 1) (m := ⟨some [4, 3, 0], some 1, []⟩) rfl rfl ?_ ?_ ?_ <;> first | rfl | (simp [keepT, AV.underL, AV.under, MB.under, underL_plain, under_plain, underL_append, plain_ints, plain_span, plain_ins, plain_prg, -List.map_take, -List.map_replicate, -List.map_set, plain_bytes]; done) | (simp [keepT, AV.underL, AV.under, MB.under, underL_plain, under_plain, underL_append, plain_ints, plain_span, plain_ins, plain_prg, -List.map_take, -List.map_replicate, -List.map_set, plain_bytes]; omega)))
  · intro _
    have he : setEt s s.length = setE s := by simp [setEt, setE]
    rw [he]
    simp +contextual (disch := omega) only [Try.f84, dd84, go_sem, ↓reduceIte, List.reduceReplicate, Nat.reduceAdd, Nat.reduceSub, reduceCtorEq, evBin, Nat.reduceLeDiff, Nat.reduceMul, Nat.reduceLT, Nat.reduceEqDiff, Int.reduceBNe, Int.reduceBEq, Int.reduceEq, Int.reduceLT, Int.reduceLE, Int.reduceGT, Int.reduceGE, mu84, Nat.reduceBEq, ↓wrap_up, ↓wrap_down, ↓wrap_pred, ↓wrap_sub_nat, Int.reduceToNat, ty71]
    exact ⟨_, fz_row rfl (by simp) (plain_bytes _)⟩
  · simp only [setEt, List.take_zero, List.flatMap_nil, List.append_nil]
    exact (by first | rfl | (refine prep_cut rfl (by rfl) (by rfl) (by rfl) ?_ ?_ <;> simp [AV.underL, AV.under, MB.under, underL_plain, under_plain, plain_ints, plain_span, plain_ins, plain_prg, -List.map_take, plain_bytes]))
end
section
attribute [local go_sem] evBin ty22 ty39 ty41 ty108
open Go.Proofs Go.RowKit Go.IntWalk
set_option maxRecDepth 100000
set_option linter.unusedSimpArgs false
set_option linter.unusedVariables false
set_option maxHeartbeats 8000000

theorem f38 (g : Prg) (hg : In64P g) (H : List MB) : call Try.prog pol1 38 [.agg [.sl false (g.ins.map insAV), I g.caps, .bool g.runes]] H = some (.sl false ((prgE g).map B8), H) := by
  refine call_run Try.func38 rfl rfl rfl rfl rfl rfl (fun _ => rfl) (by simp [AV.plain, AV.plainL, plain_ins]) (by simp [AV.plain, plain_bytes]) ?_ H
  have hgl := hg.len
  have b0 := iE_len hg.caps
  have hlen64 : In64 (g.ins.length : Int) := ⟨by omega, by omega⟩
  have b1 := iE_len hlen64
  have e0 := f81 g.caps hg.caps
  have e1 := f82 g.runes
  have e2 := f81 g.ins.length hlen64
  have a1 := fun t => app_b (H := [gB g, .row 1 ((iE g.caps).map B8) 0]) (i := 1) (n := (iE g.caps).length) (z := 0) (bs := iE g.caps) (cs := boolE g.runes) (t := t) rfl rfl (Nat.zero_le _) (by simp [boolE]; omega)
  have a2 := app_bm (H := [gB g, .row 1 ((iE g.caps ++ boolE g.runes).map B8) 0, .row 1 ((iE g.ins.length).map B8) 0]) (i := 1) (n := (iE g.caps).length + (boolE g.runes).length) (z := 0) (j := 2) (z' := 0) (bs := iE g.caps ++ boolE g.runes) (cs := iE g.ins.length) rfl (by simp) (Nat.zero_le _) rfl rfl (by simp [boolE]; omega)
  simp +contextual (disch := omega) only [Try.f38, dd38, go_sem, ↓reduceIte, List.reduceReplicate, Nat.reduceAdd, Nat.reduceSub, reduceCtorEq, Nat.reduceLeDiff, Nat.reduceMul, Nat.reduceLT, Nat.reduceEqDiff, Int.reduceBNe, Int.reduceBEq, Int.reduceEq, Int.reduceLT, Int.reduceLE, Int.reduceGT, Int.reduceGE, mu38, Nat.reduceBEq, ↓wrap_up, ↓wrap_down, ↓wrap_pred, ↓wrap_sub_nat, Int.reduceToNat, ty71, e0, e1, e2, a1, a2]
  refine ⟨by unfold dOk; kernel_rfl, by show (_ && _) = true; kernel_rfl, ?_⟩
  have hz : iE g.caps ++ boolE g.runes ++ iE g.ins.length = prgEt g 0 := by simp [prgEt]
  have hzl : (iE g.caps).length + (boolE g.runes).length + (iE g.ins.length).length = (prgEt g 0).length := by simp [prgEt]; omega
  rw [hz, hzl]
  refine W_count (M := (mskOf (pol1.mask 38) (pol1.gc 38) (pol1.acts 38) 0 4)) rfl g.ins.length (fun i => (⟨63, [(4, I i), (3, .ms 1 1 (prgEt g i).length 0 (prgEt g i).length), (1, .rf 0 1 0 0)], [gB g, .row 1 ((prgEt g i).map B8) 0]⟩ : St)) (fun _ => True) ?_ ?_ trivial _ ?_
  · intro i hi _
    obtain ⟨p, hp⟩ : ∃ p, g.ins[i]? = some p := ⟨_, List.getElem?_eq_getElem hi⟩
    have hpi := hg.ins p (List.mem_of_getElem? hp)
    have hb := prgEt_len hg i
    rw [prgEt_succ hp]
    generalize prgEt g i = X at *
    simp +contextual (disch := omega) only [Try.f38, dd38, go_sem, ↓reduceIte, List.reduceReplicate, Nat.reduceAdd, Nat.reduceSub, reduceCtorEq, Nat.reduceLeDiff, Nat.reduceMul, Nat.reduceLT, Nat.reduceEqDiff, Int.reduceBNe, Int.reduceBEq, Int.reduceEq, Int.reduceLT, Int.reduceLE, Int.reduceGT, Int.reduceGE, mu38, Nat.reduceBEq, ↓wrap_up, ↓wrap_down, ↓wrap_pred, ↓wrap_sub_nat, Int.reduceToNat, ty71, hp]
    obtain ⟨nums, hnums⟩ : ∃ l : List Int, l = [p.op, p.x, p.y, p.n] := ⟨_, rfl⟩
    have hn4 : nums.length = 4 := by rw [hnums]; rfl
    have hn64 : ∀ v ∈ nums, In64 v := fun v hv => by
      rw [hnums] at hv
      simp only [List.mem_cons, List.not_mem_nil, or_false] at hv
      rcases hv with rfl | rfl | rfl | rfl
      · exact hpi.op
      · exact hpi.x
      · exact hpi.y
      · exact hpi.n
    have hbk : ∀ k, (X ++ (nums.take k).flatMap iE).length ≤ 210000100 := fun k => by
      have : ∀ l : List Int, (∀ v ∈ l, In64 v) → (l.flatMap iE).length ≤ 10 * l.length := fun l => by
        induction l with
        | nil => simp
        | cons v l ih =>
          intro h
          have h1 := ih (fun w hw => h w (by simp [hw]))
          have h2 := iE_len (h v (by simp))
          simp only [List.flatMap_cons, List.length_append, List.length_cons]
          omega
      have := this (nums.take k) (fun v hv => hn64 v (List.mem_of_mem_take hv))
      simp only [List.length_append, List.length_take] at this ⊢
      omega
    have hmn : [I p.op, I p.x, I p.y, I p.n] = nums.map I := by rw [hnums]; rfl
    rw [hmn]
    refine W_count (M := (mskOf (pol1.mask 38) (pol1.gc 38) (pol1.acts 38) 0 9)) rfl 4 (fun k => (⟨63, [(7, I k), (6, .sl true (nums.map I)), (5, .rf 2 1 0 0), (4, I i), (3, .ms 1 1 (X ++ (nums.take k).flatMap iE).length 0 (X ++ (nums.take k).flatMap iE).length), (1, .rf 0 1 0 0)], [gB g, .row 1 ((X ++ (nums.take k).flatMap iE).map B8) 0, .row 5 [insAV p] 0]⟩ : St)) (fun _ => True) ?_ ?_ trivial _ ?_
    · intro k hk _
      obtain ⟨v, hv⟩ : ∃ v, nums[k]? = some v := ⟨_, List.getElem?_eq_getElem (by omega)⟩
      have hv64 := hn64 v (List.mem_of_getElem? hv)
      have hY : X ++ (nums.take (k + 1)).flatMap iE = X ++ (nums.take k).flatMap iE ++ iE v := by
        rw [List.take_add_one, hv]; simp
      rw [hY]
      have hbk := hbk k
      generalize X ++ (nums.take k).flatMap iE = Y at *
      have h1 := f81 v hv64
      have c1 := iE_len hv64
      have a1 := app_bm (H := [gB g, .row 1 (Y.map B8) 0, .row 5 [insAV p] 0, .row 1 ((iE v).map B8) 0]) (i := 1) (n := Y.length) (z := 0) (j := 3) (z' := 0) (bs := Y) (cs := iE v) rfl rfl (Nat.zero_le _) rfl rfl (by omega)
      simp +contextual (disch := omega) only [Try.f38, dd38, go_sem, ↓reduceIte, List.reduceReplicate, Nat.reduceAdd, Nat.reduceSub, reduceCtorEq, Nat.reduceLeDiff, Nat.reduceMul, Nat.reduceLT, Nat.reduceEqDiff, Int.reduceBNe, Int.reduceBEq, Int.reduceEq, Int.reduceLT, Int.reduceLE, Int.reduceGT, Int.reduceGE, mu38, Nat.reduceBEq, ↓wrap_up, ↓wrap_down, ↓wrap_pred, ↓wrap_sub_nat, Int.reduceToNat, ty71, hv, hn4, h1, a1]
      exact (by first | rfl | (refine prep_to (n := 3) (m := ⟨some [7, 6, 5, 4, 3, 1], some 3, []⟩) rfl rfl ?_ ?_ ?_ <;> first | rfl | (simp [keepT, AV.underL, AV.under, MB.under, underL_plain, under_plain, underL_append, plain_ints, plain_span, plain_ins, plain_prg, -List.map_take, -List.map_replicate, -List.map_set, plain_bytes]; done) | (simp [keepT, AV.underL, AV.under, MB.under, underL_plain, under_plain, underL_append, plain_ints, plain_span, plain_ins, plain_prg, -List.map_take, -List.map_replicate, -List.map_set, plain_bytes]; omega)))
    · intro _
      have hbk := hbk 4
      have hY : X ++ (nums.take 4).flatMap iE = X ++ iE p.op ++ iE p.x ++ iE p.y ++ iE p.n := by
        rw [hnums]; simp
      rw [hY] at hbk ⊢
      by_cases h1op : p.op = 1
      · have h84 := f84 p.set hpi.set (by have := hpi.len; omega)
        have hsl := setE_len hpi.set (by have := hpi.len; omega)
        have hpl := hpi.len
        have h83 := f83 (setE p.set) (by omega)
        have hrl := vI_len10 (n := (setE p.set).length) (by omega)
        have hI : insE p = iE p.op ++ iE p.x ++ iE p.y ++ iE p.n ++ rawE (setE p.set) := by rw [insE, if_pos h1op]
        have hI2 : X ++ insE p = X ++ iE p.op ++ iE p.x ++ iE p.y ++ iE p.n ++ rawE (setE p.set) := by rw [hI]; simp
        rw [hI2]
        generalize X ++ iE p.op ++ iE p.x ++ iE p.y ++ iE p.n = Y at *
        have a1 := app_b (H := [gB g, .row 1 (Y.map B8) 0, .row 5 [insAV p] 0]) (i := 1) (n := Y.length) (z := 0) (bs := Y) (cs := rawE (setE p.set)) (t := false) rfl rfl (Nat.zero_le _) (by simp [rawE]; omega)
        obtain ⟨op, x, y, n, set⟩ := p
        simp only at h1op
        subst h1op
        simp +contextual (disch := omega) only [Try.f38, dd38, go_sem, ↓reduceIte, List.reduceReplicate, Nat.reduceAdd, Nat.reduceSub, reduceCtorEq, Nat.reduceLeDiff, Nat.reduceMul, Nat.reduceLT, Nat.reduceEqDiff, Int.reduceBNe, Int.reduceBEq, Int.reduceEq, Int.reduceLT, Int.reduceLE, Int.reduceGT, Int.reduceGE, mu38, Nat.reduceBEq, ↓wrap_up, ↓wrap_down, ↓wrap_pred, ↓wrap_sub_nat, Int.reduceToNat, ty71, h84, h83, a1]
        exact (by first | rfl | (refine prep_to (n := 2) (m := ⟨some [4, 3, 1], some 2, []⟩) rfl rfl ?_ ?_ ?_ <;> first | rfl | (simp [keepT, AV.underL, AV.under, MB.under, underL_plain, under_plain, underL_append, plain_ints, plain_span, plain_ins, plain_prg, -List.map_take, -List.map_replicate, -List.map_set, plain_bytes]; done) | (simp [keepT, AV.underL, AV.under, MB.under, underL_plain, under_plain, underL_append, plain_ints, plain_span, plain_ins, plain_prg, -List.map_take, -List.map_replicate, -List.map_set, plain_bytes]; omega)))
      · have hI : insE p = iE p.op ++ iE p.x ++ iE p.y ++ iE p.n := by rw [insE, if_neg h1op, List.append_nil]
        have hI2 : X ++ insE p = X ++ iE p.op ++ iE p.x ++ iE p.y ++ iE p.n := by rw [hI]; simp
        rw [hI2]
        generalize X ++ iE p.op ++ iE p.x ++ iE p.y ++ iE p.n = Y at *
        simp +contextual (disch := omega) only [Try.f38, dd38, go_sem, ↓reduceIte, List.reduceReplicate, Nat.reduceAdd, Nat.reduceSub, reduceCtorEq, Nat.reduceLeDiff, Nat.reduceMul, Nat.reduceLT, Nat.reduceEqDiff, Int.reduceBNe, Int.reduceBEq, Int.reduceEq, Int.reduceLT, Int.reduceLE, Int.reduceGT, Int.reduceGE, mu38, Nat.reduceBEq, ↓wrap_up, ↓wrap_down, ↓wrap_pred, ↓wrap_sub_nat, Int.reduceToNat, ty71]
        exact (by first | rfl | (refine prep_to (n := 2) (m := ⟨some [4, 3, 1], some 2, []⟩) rfl rfl ?_ ?_ ?_ <;> first | rfl | (simp [keepT, AV.underL, AV.under, MB.under, underL_plain, under_plain, underL_append, plain_ints, plain_span, plain_ins, plain_prg, -List.map_take, -List.map_replicate, -List.map_set, plain_bytes]; done) | (simp [keepT, AV.underL, AV.under, MB.under, underL_plain, under_plain, underL_append, plain_ints, plain_span, plain_ins, plain_prg, -List.map_take, -List.map_replicate, -List.map_set, plain_bytes]; omega)))
    · simp only [List.take_zero, List.flatMap_nil, List.append_nil]
      exact (by first | rfl | (refine prep_to (n := 3) (m := ⟨some [7, 6, 5, 4, 3, 1], some 3, []⟩) rfl rfl ?_ ?_ ?_ <;> first | rfl | (simp [keepT, AV.underL, AV.under, MB.under, underL_plain, under_plain, underL_append, plain_ints, plain_span, plain_ins, plain_prg, -List.map_take, -List.map_replicate, -List.map_set, plain_bytes]; done) | (simp [keepT, AV.underL, AV.under, MB.under, underL_plain, under_plain, underL_append, plain_ints, plain_span, plain_ins, plain_prg, -List.map_take, -List.map_replicate, -List.map_set, plain_bytes]; omega)))
  · intro _
    have he : prgEt g g.ins.length = prgE g := by simp [prgEt, prgE]
    rw [he]
    simp +contextual (disch := omega) only [Try.f38, dd38, go_sem, ↓reduceIte, List.reduceReplicate, Nat.reduceAdd, Nat.reduceSub, reduceCtorEq, Nat.reduceLeDiff, Nat.reduceMul, Nat.reduceLT, Nat.reduceEqDiff, Int.reduceBNe, Int.reduceBEq, Int.reduceEq, Int.reduceLT, Int.reduceLE, Int.reduceGT, Int.reduceGE, mu38, Nat.reduceBEq, ↓wrap_up, ↓wrap_down, ↓wrap_pred, ↓wrap_sub_nat, Int.reduceToNat, ty71]
    exact ⟨_, fz_row rfl (by simp) (plain_bytes _)⟩
  · exact (by first | rfl | (refine prep_to (n := 2) (m := ⟨some [4, 3, 1], some 2, []⟩) rfl rfl ?_ ?_ ?_ <;> first | rfl | (simp [keepT, AV.underL, AV.under, MB.under, underL_plain, under_plain, underL_append, plain_ints, plain_span, plain_ins, plain_prg, -List.map_take, -List.map_replicate, -List.map_set, plain_bytes]; done) | (simp [keepT, AV.underL, AV.under, MB.under, underL_plain, under_plain, underL_append, plain_ints, plain_span, plain_ins, plain_prg, -List.map_take, -List.map_replicate, -List.map_set, plain_bytes]; omega)))
end
end Go.Ev
