/- Rules, continued: statements whose order is open; values that never change; whole calls. -/
import Derived.Test.YtpbobopcmhpbbaaEvWp
set_option linter.unusedVariables false
set_option linter.unusedSimpArgs false
namespace Go.Ev
open Go.RowKit

variable {P : Program} {pol : Pol} {cf : CF} {it : It} {mu : List Nat} {m : Cfg}

mutual
theorem AV.beq_refl : ∀ a : AV, AV.beq a a = true
  | .top | .nilp | .nilf | .nili | .nilm => rfl
  | .int k n => by simp [AV.beq]
  | .bool x => by simp [AV.beq]
  | .str s => by simp [AV.beq]
  | .sl t xs => by simp [AV.beq, AV.beqL_refl xs]
  | .pt xs => by simp [AV.beq, AV.beqL_refl xs]
  | .rf a b c d => by simp [AV.beq]
  | .ms a b c d e => by simp [AV.beq]
  | .mpr a => by simp [AV.beq]
  | .clo f xs => by simp [AV.beq, AV.beqL_refl xs]
  | .agg xs => by simp [AV.beq, AV.beqL_refl xs]
  | .tup xs => by simp [AV.beq, AV.beqL_refl xs]
  | .ifc t x => by simp [AV.beq, AV.beq_refl x]
theorem AV.beqL_refl : ∀ l : List AV, AV.beqL l l = true
  | [] => rfl
  | x :: xs => by simp [AV.beqL, AV.beq_refl x, AV.beqL_refl xs]
end

theorem MB.beqE_refl : ∀ l : List (AV × AV), MB.beqE l l = true
  | [] => rfl
  | (a, b) :: l => by simp [MB.beqE, AV.beq_refl, MB.beqE_refl l]

theorem MB.beq_refl (b : MB) : MB.beq b b = true := by
  cases b <;> simp [MB.beq, AV.beqL_refl, MB.beqE_refl]

theorem heapEq_refl : ∀ H : List MB, heapEq H H = true
  | [] => rfl
  | b :: H => by simp [heapEq, MB.beq_refl, heapEq_refl H]

theorem sameAt_refl (id : Nat) (H : List MB) : sameAt id H H = true := by
  unfold sameAt
  cases H[id]? <;> simp [MB.beq_refl]

def dOk (os : List Oper) (_t : Tag os) : Prop := drawOk ⟨os⟩ = true

def fpL (i : Nat) (o : Option FP) : List (Nat × FP) :=
  match o with
  | some p => [(i, p)]
  | none => []
theorem fpL_some (i : Nat) (p : FP) : fpL i (some p) = [(i, p)] := rfl
theorem fpL_none (i : Nat) : fpL i none = [] := rfl

def WD (P : Program) (cf : CF) (mu : List Nat) (ops : List Oper) (i : Nat) (rest : List Oper) (s : St) (acc : List (Nat × FP)) (Q : List (Nat × FP) → St → Prop) (_t : Tag2 rest Q) : Prop :=
  bindW (evOpsD P cf mu ops i rest s) (fun q => Q (acc ++ q.1) q.2) .mk

theorem WD_nil {ops : List Oper} {i : Nat} {s : St} {acc} {Q : List (Nat × FP) → St → Prop} {τ} : WD P cf mu ops i [] s acc Q τ = Q acc s := by simp [WD, evOpsD, bindW]

theorem WD_cons {ops rest : List Oper} {i : Nat} {dst op ty pos after} {n : Nat} {t : Tm} {H : List MB} {acc} {Q : List (Nat × FP) → St → Prop} {τ} :
    WD P cf mu ops i (⟨dst, op, ty, pos, after, none⟩ :: rest) ⟨n, t, H⟩ acc Q τ =
      bindW (evOp P cf mu (St.ev ⟨n, t, H⟩) H ⟨dst, op, ty, pos, after, none⟩) (fun q => WD P cf mu ops (i + 1) rest (St.put ⟨n, t, q.2⟩ dst q.1)
        (acc ++ fpL i (footprint mu (St.ev ⟨n, t, H⟩) ⟨dst, op, ty, pos, after, none⟩ H q.2)) Q .mk) .mk := by
  simp only [WD, evOpsD, evOne, evWanted]
  cases h : evOp P cf mu (St.ev ⟨n, t, H⟩) H ⟨dst, op, ty, pos, after, none⟩ with
  | none => simp [bindW]
  | some q =>
    obtain ⟨v, H'⟩ := q
    have hp : ∀ (d : Option Tmp), (St.put ⟨n, t, H'⟩ d v).h = H' := fun d => by cases d <;> rfl
    cases h2 : evOpsD P cf mu ops (i + 1) rest (St.put ⟨n, t, H'⟩ dst v) with
    | none => simp [bindW, h2]
    | some r =>
      obtain ⟨l, s⟩ := r
      simp only [bindW_some, h2, if_true, hp]
      cases footprint mu (St.ev ⟨n, t, H⟩) ⟨dst, op, ty, pos, after, none⟩ H H' <;> simp [fpL]

theorem WD_guard {ops rest : List Oper} {i : Nat} {dst op ty pos after} {j : Nat} {w : Bool} {n : Nat} {t : Tm} {H : List MB} {acc} {Q : List (Nat × FP) → St → Prop} {τ} :
    WD P cf mu ops i (⟨dst, op, ty, pos, after, some (j, w)⟩ :: rest) ⟨n, t, H⟩ acc Q τ =
    bindW (guardV ops j t) (fun q => guardW q w t
      (fun t => bindW (evOp P cf mu (St.ev ⟨n, t, H⟩) H ⟨dst, op, ty, pos, after, none⟩) (fun q => WD P cf mu ops (i + 1) rest (St.put ⟨n, t, q.2⟩ dst q.1) (acc ++ fpL i (footprint mu (St.ev ⟨n, t, H⟩) ⟨dst, op, ty, pos, after, none⟩ H q.2)) Q .mk) .mk)
      (fun t => WD P cf mu ops (i + 1) rest (St.put ⟨n, t, H⟩ dst (.tup [])) acc Q .mk) .mk) .mk := by
  have hop : ∀ g, evOp P cf mu (St.ev ⟨n, t, H⟩) H ⟨dst, op, ty, pos, after, g⟩ = evOp P cf mu (St.ev ⟨n, t, H⟩) H ⟨dst, op, ty, pos, after, none⟩ := fun g => rfl
  have run : evWanted ops ⟨n, t, H⟩ ⟨dst, op, ty, pos, after, some (j, w)⟩ = some true → WD P cf mu ops i (⟨dst, op, ty, pos, after, some (j, w)⟩ :: rest) ⟨n, t, H⟩ acc Q τ =
      bindW (evOp P cf mu (St.ev ⟨n, t, H⟩) H ⟨dst, op, ty, pos, after, none⟩) (fun q => WD P cf mu ops (i + 1) rest (St.put ⟨n, t, q.2⟩ dst q.1) (acc ++ fpL i (footprint mu (St.ev ⟨n, t, H⟩) ⟨dst, op, ty, pos, after, none⟩ H q.2)) Q .mk) .mk := by
    intro h
    have hfp : ∀ g H', footprint mu (St.ev ⟨n, t, H⟩) ⟨dst, op, ty, pos, after, g⟩ H H' = footprint mu (St.ev ⟨n, t, H⟩) ⟨dst, op, ty, pos, after, none⟩ H H' := fun g H' => rfl
    simp only [WD, evOpsD, evOne, h, hop, hfp]
    cases evOp P cf mu (St.ev ⟨n, t, H⟩) H ⟨dst, op, ty, pos, after, none⟩ with
    | none => simp [bindW]
    | some q =>
      obtain ⟨v, H'⟩ := q
      have hp : ∀ (d : Option Tmp), (St.put ⟨n, t, H'⟩ d v).h = H' := fun d => by cases d <;> rfl
      cases h2 : evOpsD P cf mu ops (i + 1) rest (St.put ⟨n, t, H'⟩ dst v) with
      | none => simp [bindW, h2]
      | some r =>
        obtain ⟨l, s⟩ := r
        simp only [bindW_some, h2, if_true, hp]
        cases footprint mu (St.ev ⟨n, t, H⟩) ⟨dst, op, ty, pos, after, none⟩ H H' <;> simp [fpL]
  have skip : evWanted ops ⟨n, t, H⟩ ⟨dst, op, ty, pos, after, some (j, w)⟩ = some false → WD P cf mu ops i (⟨dst, op, ty, pos, after, some (j, w)⟩ :: rest) ⟨n, t, H⟩ acc Q τ =
      WD P cf mu ops (i + 1) rest (St.put ⟨n, t, H⟩ dst (.tup [])) acc Q .mk := by
    intro h
    simp only [WD, evOpsD, evOne, h]
    cases h2 : evOpsD P cf mu ops (i + 1) rest (St.put ⟨n, t, H⟩ dst (.tup [])) with
    | none => simp [bindW]
    | some r =>
      obtain ⟨l, s⟩ := r
      simp [bindW]
  have stuck : evWanted ops ⟨n, t, H⟩ ⟨dst, op, ty, pos, after, some (j, w)⟩ = none → WD P cf mu ops i (⟨dst, op, ty, pos, after, some (j, w)⟩ :: rest) ⟨n, t, H⟩ acc Q τ = False := by
    intro h
    simp only [WD, evOpsD, evOne, h, bindW_none]
  unfold guardV
  cases hq0 : ops[j]? with
  | none =>
    rw [skip (by simp [evWanted, hq0])]
    simp only [bindW_some, guardW_tup]
  | some q =>
    simp only []
    cases hd : q.dst with
    | none =>
      rw [skip (by simp [evWanted, hq0, hd])]
      simp only [bindW_some, guardW_tup]
    | some d =>
      simp only []
      cases htd : look t d with
      | none =>
        rw [stuck (by simp [evWanted, hq0, hd, htd])]
        simp [bindW]
      | some u =>
        simp only [Option.map_some, bindW_some]
        have st : (∀ b, u ≠ .bool b) → u ≠ .tup [] → evWanted ops ⟨n, t, H⟩ ⟨dst, op, ty, pos, after, some (j, w)⟩ = none := by
          intro h1 h2
          simp only [evWanted, hq0, hd, htd]
          cases u with
          | bool b => exact absurd rfl (h1 b)
          | tup l => cases l with
            | nil => exact absurd rfl h2
            | cons a l => rfl
          | _ => rfl
        have ss := set_same htd
        cases u with
        | bool b =>
          rw [guardW_bool]
          cases b <;> cases w
          · rw [run (by simp [evWanted, hq0, hd, htd]), splitB_false, if_pos rfl, ss]
          · rw [skip (by simp [evWanted, hq0, hd, htd])]; simp [splitB_false, ss]
          · rw [skip (by simp [evWanted, hq0, hd, htd])]; simp [splitB_true, ss]
          · rw [run (by simp [evWanted, hq0, hd, htd]), splitB_true, if_pos rfl, ss]
        | tup l =>
          cases l with
          | nil => rw [skip (by simp [evWanted, hq0, hd, htd])]; rfl
          | cons a l => rw [stuck (st (by simp) (by simp))]; rfl
        | _ => rw [stuck (st (by simp) (by simp))]; rfl

theorem W_draw {id : Nat} {os : List Oper} {s : St} {Q : EX → St → Prop} {τ} : W P cf it mu m (.region id ⟨os⟩ true) s Q τ = (dOk os .mk ∧ WD P cf mu os 0 os s [] (fun l s => pairsOk ⟨os⟩ l = true ∧ Q .norm (dropSt (m.dd id) s)) .mk) := by
  simp only [W, WD, evCode, evRegion, if_true, bindW_map, dOk]
  cases evOpsD P cf mu os 0 os s with
  | none => simp [bindW]
  | some q =>
    obtain ⟨l, s'⟩ := q
    simp only [bindW_some, List.nil_append]
    by_cases h1 : drawOk ⟨os⟩ = true <;> by_cases h2 : pairsOk ⟨os⟩ l = true <;> simp [h1, h2, bindW]

mutual
/-- Nothing in it is ever handed on otherwise than it is. -/
def AV.plain : AV → Bool
  | .rf _ _ _ _ | .ms _ _ _ _ _ | .mpr _ => false
  | .sl t xs => !t && AV.plainL xs
  | .pt xs => AV.plainL xs
  | .clo _ xs => AV.plainL xs
  | .agg xs => AV.plainL xs
  | .tup xs => AV.plainL xs
  | .ifc _ x => AV.plain x
  | _ => true
def AV.plainL : List AV → Bool
  | [] => true
  | x :: xs => AV.plain x && AV.plainL xs
end

theorem plainL_iff (l : List AV) : AV.plainL l = true ↔ ∀ x ∈ l, AV.plain x = true := by
  induction l with
  | nil => simp [AV.plainL]
  | cons a l ih => simp [AV.plainL, ih]

mutual
theorem fzA_plain (jump : List AV → List MB → Option (List AV × List MB)) : ∀ (a : AV) (H : List MB), AV.plain a = true → fzA jump a H = some (a, H)
  | .sl t xs, H, h => by
    simp only [AV.plain, Bool.and_eq_true, Bool.not_eq_true'] at h
    obtain ⟨rfl, h2⟩ := h
    simp only [fzA, fzL_plain jump xs H h2]
  | .pt xs, H, h => by simp only [AV.plain] at h; simp only [fzA, fzL_plain jump xs H h]
  | .agg xs, H, h => by simp only [AV.plain] at h; simp only [fzA, fzL_plain jump xs H h]
  | .tup xs, H, h => by simp only [AV.plain] at h; simp only [fzA, fzL_plain jump xs H h]
  | .rf _ _ _ _, H, h => by simp [AV.plain] at h
  | .ms _ _ _ _ _, H, h => by simp [AV.plain] at h
  | .mpr _, H, h => by simp [AV.plain] at h
  | .top, H, h => rfl
  | .int _ _, H, h => rfl
  | .bool _, H, h => rfl
  | .str _, H, h => rfl
  | .nilp, H, h => rfl
  | .nilf, H, h => rfl
  | .nili, H, h => rfl
  | .nilm, H, h => rfl
  | .clo _ _, H, h => rfl
  | .ifc _ _, H, h => rfl
theorem fzL_plain (jump : List AV → List MB → Option (List AV × List MB)) : ∀ (l : List AV) (H : List MB), AV.plainL l = true → fzL jump l H = some (l, H)
  | [], H, _ => rfl
  | x :: xs, H, h => by
    simp only [AV.plainL, Bool.and_eq_true] at h
    simp only [fzL, fzA_plain jump x H h.1, fzL_plain jump xs H h.2]
end

mutual
theorem under_plain (n : Nat) : ∀ (a : AV), AV.plain a = true → AV.under n a = true
  | .sl t xs, h => by
    simp only [AV.plain, Bool.and_eq_true] at h
    simp only [AV.under, underL_plain n xs h.2]
  | .pt xs, h => by simp only [AV.plain] at h; simp only [AV.under, underL_plain n xs h]
  | .agg xs, h => by simp only [AV.plain] at h; simp only [AV.under, underL_plain n xs h]
  | .tup xs, h => by simp only [AV.plain] at h; simp only [AV.under, underL_plain n xs h]
  | .clo _ xs, h => by simp only [AV.plain] at h; simp only [AV.under, underL_plain n xs h]
  | .ifc _ x, h => by simp only [AV.plain] at h; simp only [AV.under, under_plain n x h]
  | .rf _ _ _ _, h => by simp [AV.plain] at h
  | .ms _ _ _ _ _, h => by simp [AV.plain] at h
  | .mpr _, h => by simp [AV.plain] at h
  | .top, h => rfl
  | .int _ _, h => rfl
  | .bool _, h => rfl
  | .str _, h => rfl
  | .nilp, h => rfl
  | .nilf, h => rfl
  | .nili, h => rfl
  | .nilm, h => rfl
theorem underL_plain (n : Nat) : ∀ (l : List AV), AV.plainL l = true → AV.underL n l = true
  | [], _ => rfl
  | x :: xs, h => by
    simp only [AV.plainL, Bool.and_eq_true] at h
    simp only [AV.underL, under_plain n x h.1, underL_plain n xs h.2, Bool.and_self]
end

theorem fz_plain {a : AV} (H : List MB) (h : AV.plain a = true) : fz a H = some (a, H) := fzA_plain _ a H h
theorem fzs_plain {l : List AV} (H : List MB) (h : AV.plainL l = true) : fzs l H = some (l, H) := fzL_plain _ l H h

theorem keptOk_zero (H K : List MB) : keptOk 0 [] K = true := by cases K <;> rfl

/-- A result that never changes, out of a call over an empty heap. -/
theorem retPol_plain {f : Nat} {r : AV} {H : List MB} (hk : pol.keep f = false) (ho : pol.own f = false) (h : AV.plain r = true) : retPol pol f [] r H = some (r, []) := by
  unfold retPol
  simp only [hk, ho, Bool.false_eq_true, if_false, fz_plain H h, List.length_nil, under_plain 0 r h, keptOk_zero [] H, and_self, if_true, List.take_zero]

/-- A call all of whose arguments never change, of a function that is run over an empty heap. -/
theorem call_plain {f : Nat} {args : List AV} {r : AV} (hp : pol.pure f = true) (ha : AV.plainL args = true) (hr : AV.plain r = true)
    (h : evBody P pol (call P pol) itL f args [] = some (r, [])) (H : List MB) : call P pol f args H = some (r, H) := by
  have hf : ∀ (l : List AV) (i : Nat), AV.plainL l = true → frzArgs pol f i l H = some (l, H) := by
    intro l
    induction l with
    | nil => intro i _; rfl
    | cons x l ih =>
      intro i h
      simp only [AV.plainL, Bool.and_eq_true] at h
      simp only [frzArgs, fz_plain H h.1, ih (i + 1) h.2]
      split <;> simp_all
  rw [call_eq]
  unfold evStep
  rw [if_pos hp]
  simp only [hf args 0 ha, underL_plain 0 args ha, if_true, h, rebase, under_plain 0 r hr]

theorem guardW_boolT {d : Nat} {b : Bool} {t : Tm} {X Y : Tm → Prop} {τ} : guardW (d, .bool b) true t X Y τ = splitB b (X (upd d (.bool true) t)) (Y (upd d (.bool false) t)) .mk := by
  simp [guardW_bool]
theorem guardW_boolF {d : Nat} {b : Bool} {t : Tm} {X Y : Tm → Prop} {τ} : guardW (d, .bool b) false t X Y τ = splitB b (Y (upd d (.bool true) t)) (X (upd d (.bool false) t)) .mk := by
  simp [guardW_bool]
theorem put_some {n : Nat} {t : Tm} {H : List MB} {i : Nat} {v : AV} : St.put ⟨n, t, H⟩ (some i) v = ⟨n, if i < n then ins i v t else t, H⟩ := rfl
theorem put_none {n : Nat} {t : Tm} {H : List MB} {v : AV} : St.put ⟨n, t, H⟩ none v = ⟨n, t, H⟩ := rfl
theorem ev_tmp {n : Nat} {t : Tm} {H : List MB} {i : Nat} : St.ev ⟨n, t, H⟩ (.tmp i) = lookD t i := rfl
theorem ev_con {n : Nat} {t : Tm} {H : List MB} {v : Value} : St.ev ⟨n, t, H⟩ (.const v) = ofK v := rfl
theorem ev_func {n : Nat} {t : Tm} {H : List MB} {f : Nat} : St.ev ⟨n, t, H⟩ (.func f) = .clo f [] := rfl
theorem ofK_int {k : IntKind} {n : Int} : ofK (.int k n) = .int k n := rfl
theorem ofK_bool {b : Bool} : ofK (.bool b) = .bool b := rfl
theorem ofK_str {b : ByteArray} : ofK (.string b) = .str b := rfl
theorem ofK_nil : ofK (.slice none 0 0) = .sl true [] := rfl
theorem plain_int {k : IntKind} {n : Int} : AV.plain (.int k n) = true := rfl
theorem plain_bool {b : Bool} : AV.plain (.bool b) = true := rfl
theorem plain_str {b : ByteArray} : AV.plain (.str b) = true := rfl
theorem plain_sl {xs : List AV} : AV.plain (.sl false xs) = AV.plainL xs := rfl
theorem plain_agg {xs : List AV} : AV.plain (.agg xs) = AV.plainL xs := rfl
theorem plain_tup {xs : List AV} : AV.plain (.tup xs) = AV.plainL xs := rfl
theorem plainL_nil : AV.plainL [] = true := rfl
theorem plainL_cons {x : AV} {xs : List AV} : AV.plainL (x :: xs) = (AV.plain x && AV.plainL xs) := rfl

theorem frzArgs_plain {f : Nat} (hb : ∀ i, pol.byref f i = false) (H : List MB) : ∀ (l : List AV) (i : Nat), AV.plainL l = true → frzArgs pol f i l H = some (l, H)
  | [], _, _ => rfl
  | x :: l, i, h => by
    simp only [AV.plainL, Bool.and_eq_true] at h
    simp only [frzArgs, hb, Bool.false_eq_true, if_false, fz_plain H h.1, frzArgs_plain hb H l (i + 1) h.2]

/-- The results, as they are handed on. -/
def retK (P : Program) (rs : List ResultVar) (r : AV) : EX → St → Prop
  | .exit _, _ => False
  | _, s => bindW (evResults P s rs) (fun vs => ∃ H', fz (packRes vs) s.h = some (r, H')) .mk
theorem retK_norm {rs r s} : retK P rs r .norm s = bindW (evResults P s rs) (fun vs => ∃ H', fz (packRes vs) s.h = some (r, H')) .mk := rfl
theorem retK_ret {rs r s} : retK P rs r .ret s = bindW (evResults P s rs) (fun vs => ∃ H', fz (packRes vs) s.h = some (r, H')) .mk := rfl
theorem fzEx {r : AV} {H : List MB} (h : AV.plain r = true) : (∃ H', fz r H = some (r, H')) := ⟨H, fz_plain H h⟩

theorem fzEq {r r' : AV} {H : List MB} (h : AV.plain r = true) (e : r = r') : (∃ H', fz r H = some (r', H')) := ⟨H, e ▸ fz_plain H h⟩

/-- A call of a function that is run over an empty heap, and that hands on what never changes. -/
theorem call_run {f : Nat} {args : List AV} {r : AV} {fn : Func} {c : Code} (hf : P.funcs[f]? = some fn) (hc : fn.body = some c) (hn : (fn.name == "runtime.NumGoroutine") = false)
    (hp : pol.pure f = true) (he : pol.ext f = none) (hk : pol.keep f = false) (ho : pol.own f = false) (hb : ∀ i, pol.byref f i = false)
    (ha : AV.plainL args = true) (hr : AV.plain r = true)
    (h : W P (call P pol) itL (pol.muts f) (cfgOf pol f 0) c ⟨args.length + (fn.ntmps - args.length), initT 0 args [], []⟩ (retK P fn.results.toList r) .mk) (H : List MB) :
    call P pol f args H = some (r, H) := by
  refine call_plain hp ha hr ?_ H
  obtain ⟨⟨e, s⟩, hev, hk2⟩ := h
  have fin : ∀ {vs : List AV} {H' : List MB}, fz (packRes vs) s.h = some (r, H') → retPol pol f [] (packRes vs) s.h = some (r, []) := by
    intro vs H' hz
    unfold retPol
    simp only [hk, ho, Bool.false_eq_true, if_false, hz, List.length_nil, under_plain 0 r hr, keptOk_zero [] H', and_self, if_true, List.take_zero]
  unfold evBody
  simp only [he, hf, hc]
  rw [if_neg (by simpa using hn)]
  simp only [frzArgs_plain hb [] args 0 ha, List.length_nil, hev]
  cases e with
  | exit id => exact hk2.elim
  | norm =>
    obtain ⟨vs, h1, H', h2⟩ := hk2
    simp only [h1]; exact fin h2
  | ret =>
    obtain ⟨vs, h1, H', h2⟩ := hk2
    simp only [h1]; exact fin h2

theorem prep_cut {m : Msk} {n k : Nat} {t t' : Tm} {h h' : List MB} (hg : m.gc = some n) (hc : keepT m.k t = t') (he : h.take n = h') (ht : AV.underL n (t'.map (·.2)) = true) (hh : h'.all (MB.under n) = true) :
    prep m ⟨k, t, h⟩ = ⟨k, t', h'⟩ := by
  subst he
  unfold prep
  simp only [hg, hc, ht, hh, and_self, if_true]

theorem look_hit {d : Nat} {v : AV} {t : Tm} : look ((d, v) :: t) d = some v := by simp [look]
theorem lookD_hit {d : Nat} {v : AV} {t : Tm} : lookD ((d, v) :: t) d = v := by simp [lookD, look]
theorem lookD_cons {k d : Nat} {v : AV} {t : Tm} : lookD ((k, v) :: t) d = if k = d then v else lookD t d := by
  by_cases h : k = d <;> simp [lookD, look, h]
theorem lookD_nil {d : Nat} : lookD [] d = .top := rfl
theorem ins_hit {d : Nat} {u v : AV} {t : Tm} : ins d v ((d, u) :: t) = (d, v) :: t := by simp [ins]
theorem upd_hit {d : Nat} {u v : AV} {t : Tm} : upd d v ((d, u) :: t) = (d, v) :: t := by simp [upd]
theorem rem1_hit {d : Nat} {u : AV} {t : Tm} : rem1 d ((d, u) :: t) = t := by simp [rem1]
theorem dropSt_eq {n : Nat} {l : List Nat} {t : Tm} {H : List MB} : dropSt l ⟨n, t, H⟩ = ⟨n, dropT l t, H⟩ := rfl
theorem cfg_dd {f n : Nat} : (cfgOf pol f n).dd = pol.dead f := rfl
theorem cfg_bd {f n : Nat} : (cfgOf pol f n).bd = pol.bdead f := rfl

end Go.Ev
