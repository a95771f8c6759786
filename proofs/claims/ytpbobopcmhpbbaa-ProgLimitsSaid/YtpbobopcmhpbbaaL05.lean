/- Rules by which evaluation is stepped through where values are not known. -/
import Derived.Test.YtpbobopcmhpbbaaL04
import Derived.IntWalk
import Derived.Attr
set_option linter.unusedVariables false
set_option linter.unusedSimpArgs false
namespace Go.Ev
universe u v
open Go.RowKit

variable {P : Program} {pol : Pol} {cf : CF} {it : It} {mu : List Nat} {m : Cfg}

/-- Holds fast what it is of: no rule is used inside. -/
structure Tag {α : Sort u} (a : α) : Type where
structure Tag2 {α : Sort u} {β : Sort v} (a : α) (b : β) : Type where

def bindW {α : Type} (o : Option α) (Q : α → Prop) (_t : Tag Q) : Prop := ∃ v, o = some v ∧ Q v
theorem bindW_some {α : Type} (v : α) (Q : α → Prop) (τ : Tag Q) : bindW (some v) Q τ = Q v := by simp [bindW]
theorem bindW_none {α : Type} (Q : α → Prop) (τ : Tag Q) : bindW none Q τ = False := by simp [bindW]
theorem bindW_map {α β : Type} (o : Option α) (f : α → β) (Q : β → Prop) (τ : Tag Q) : bindW (o.map f) Q τ = bindW o (fun v => Q (f v)) .mk := by
  cases o <;> simp [bindW]
theorem bindW_ite {α : Type} (c : Prop) [Decidable c] (a : Option α) (Q : α → Prop) (τ : Tag Q) : bindW (if c then a else none) Q τ = (c ∧ bindW a Q .mk) := by
  by_cases h : c <;> simp [h, bindW]
theorem bindW_iteN {α : Type} (c : Prop) [Decidable c] (a : Option α) (Q : α → Prop) (τ : Tag Q) : bindW (if c then none else a) Q τ = (¬c ∧ bindW a Q .mk) := by
  by_cases h : c <;> simp [h, bindW]

/-- One of two ways on. -/
def splitB (b : Bool) (X Y : Prop) (_t : Tag2 X Y) : Prop := (b = true → X) ∧ (b = false → Y)
section
variable (X Y : Prop) (τ : Tag2 X Y)
theorem splitB_true : splitB true X Y τ = X := by simp [splitB]
theorem splitB_false : splitB false X Y τ = Y := by simp [splitB]
theorem splitB_decide (p : Prop) [Decidable p] : splitB (decide p) X Y τ = ((p → X) ∧ (¬p → Y)) := by simp [splitB]
theorem splitB_beq {α : Type} [DecidableEq α] (a b : α) : splitB (a == b) X Y τ = ((a = b → X) ∧ (a ≠ b → Y)) := by simp [splitB]
theorem splitB_bne {α : Type} [DecidableEq α] (a b : α) : splitB (a != b) X Y τ = ((a ≠ b → X) ∧ (a = b → Y)) := by simp [splitB]
theorem splitB_not (b : Bool) : splitB (!b) X Y τ = splitB b Y X .mk := by cases b <;> simp [splitB]
end

def asB : AV → Option Bool
  | .bool b => some b
  | _ => none
theorem asB_bool (b : Bool) : asB (.bool b) = some b := rfl

def WO (P : Program) (cf : CF) (mu : List Nat) (ops rest : List Oper) (s : St) (Q : St → Prop) (_t : Tag2 rest Q) : Prop := bindW (evOps P cf mu ops rest s) Q .mk

theorem WO_nil {ops : List Oper} {s : St} {Q : St → Prop} {τ} : WO P cf mu ops [] s Q τ = Q s := by simp [WO, evOps, bindW]

theorem WO_cons {ops rest : List Oper} {dst op ty pos after} {n : Nat} {t : Tm} {H : List MB} {Q : St → Prop} {τ} :
    WO P cf mu ops (⟨dst, op, ty, pos, after, none⟩ :: rest) ⟨n, t, H⟩ Q τ =
      bindW (evOp P cf mu (St.ev ⟨n, t, H⟩) H ⟨dst, op, ty, pos, after, none⟩) (fun q => WO P cf mu ops rest (St.put ⟨n, t, q.2⟩ dst q.1) Q .mk) .mk := by
  simp only [WO, evOps, evOne, evWanted]
  cases h : evOp P cf mu (St.ev ⟨n, t, H⟩) H ⟨dst, op, ty, pos, after, none⟩ with
  | none => simp [bindW]
  | some q => simp [bindW]

/-- What a guard reads. -/
def guardV (ops : List Oper) (j : Nat) (t : Tm) : Option (Nat × AV) :=
  match ops[j]? with
  | some q => match q.dst with
    | some d => (look t d).map fun v => (d, v)
    | none => some (0, .tup [])
  | none => some (0, .tup [])

/-- What is known already is written in again (a test's outcome). -/
def upd (d : Nat) (v : AV) : Tm → Tm
  | [] => []
  | (k, u) :: t => if k = d then (k, v) :: t else (k, u) :: upd d v t

def guardW (q : Nat × AV) (w : Bool) (t : Tm) (X : Tm → Prop) (Y : Tm → Prop) (_t : Tag2 X Y) : Prop :=
  match q.2 with
  | .bool b => splitB b (if w = true then X (upd q.1 (.bool true) t) else Y (upd q.1 (.bool true) t)) (if w = false then X (upd q.1 (.bool false) t) else Y (upd q.1 (.bool false) t)) .mk
  | .tup [] => Y t
  | _ => False
theorem guardW_bool {d : Nat} {b w : Bool} {t : Tm} {X Y : Tm → Prop} {τ} : guardW (d, .bool b) w t X Y τ =
  splitB b (if w = true then X (upd d (.bool true) t) else Y (upd d (.bool true) t)) (if w = false then X (upd d (.bool false) t) else Y (upd d (.bool false) t)) .mk := rfl
theorem guardW_tup {d : Nat} {w : Bool} {t : Tm} {X Y : Tm → Prop} {τ} : guardW (d, .tup []) w t X Y τ = Y t := rfl

theorem set_same {d : Nat} {v : AV} : ∀ {t : Tm}, look t d = some v → upd d v t = t
  | (k, u) :: t, h => by
    simp only [look] at h
    simp only [upd]
    split
    · rename_i e
      rw [if_pos e] at h
      simp at h; rw [h]
    · rename_i e
      rw [if_neg e] at h
      rw [set_same h]

theorem WO_guard {ops rest : List Oper} {dst op ty pos after} {j : Nat} {w : Bool} {n : Nat} {t : Tm} {H : List MB} {Q : St → Prop} {τ} :
    WO P cf mu ops (⟨dst, op, ty, pos, after, some (j, w)⟩ :: rest) ⟨n, t, H⟩ Q τ =
    bindW (guardV ops j t) (fun q => guardW q w t
      (fun t => bindW (evOp P cf mu (St.ev ⟨n, t, H⟩) H ⟨dst, op, ty, pos, after, none⟩) (fun q => WO P cf mu ops rest (St.put ⟨n, t, q.2⟩ dst q.1) Q .mk) .mk)
      (fun t => WO P cf mu ops rest (St.put ⟨n, t, H⟩ dst (.tup [])) Q .mk) .mk) .mk := by
  have hop : ∀ g, evOp P cf mu (St.ev ⟨n, t, H⟩) H ⟨dst, op, ty, pos, after, g⟩ = evOp P cf mu (St.ev ⟨n, t, H⟩) H ⟨dst, op, ty, pos, after, none⟩ := fun g => rfl
  have run : evWanted ops ⟨n, t, H⟩ ⟨dst, op, ty, pos, after, some (j, w)⟩ = some true → WO P cf mu ops (⟨dst, op, ty, pos, after, some (j, w)⟩ :: rest) ⟨n, t, H⟩ Q τ =
      bindW (evOp P cf mu (St.ev ⟨n, t, H⟩) H ⟨dst, op, ty, pos, after, none⟩) (fun q => WO P cf mu ops rest (St.put ⟨n, t, q.2⟩ dst q.1) Q .mk) .mk := by
    intro h
    simp only [WO, evOps, evOne, h, hop]
    cases evOp P cf mu (St.ev ⟨n, t, H⟩) H ⟨dst, op, ty, pos, after, none⟩ <;> simp [bindW]
  have skip : evWanted ops ⟨n, t, H⟩ ⟨dst, op, ty, pos, after, some (j, w)⟩ = some false → WO P cf mu ops (⟨dst, op, ty, pos, after, some (j, w)⟩ :: rest) ⟨n, t, H⟩ Q τ =
      WO P cf mu ops rest (St.put ⟨n, t, H⟩ dst (.tup [])) Q .mk := by
    intro h
    simp only [WO, evOps, evOne, h]
  have stuck : evWanted ops ⟨n, t, H⟩ ⟨dst, op, ty, pos, after, some (j, w)⟩ = none → WO P cf mu ops (⟨dst, op, ty, pos, after, some (j, w)⟩ :: rest) ⟨n, t, H⟩ Q τ = False := by
    intro h
    simp only [WO, evOps, evOne, h, bindW_none]
  unfold guardV
  cases hq0 : ops[j]? with
  | none =>
    rw [skip (by simp [evWanted, hq0])]
    simp only [bindW_some, guardW_tup]
  | some q =>
    simp only []
    cases hd : q.dst with
    | none =>
      rw [skip (by simp [evWanted, hq0, hd])]
      simp only [bindW_some, guardW_tup]
    | some d =>
      simp only []
      cases htd : look t d with
      | none =>
        rw [stuck (by simp [evWanted, hq0, hd, htd])]
        simp [bindW]
      | some u =>
        simp only [Option.map_some, bindW_some]
        have st : (∀ b, u ≠ .bool b) → u ≠ .tup [] → evWanted ops ⟨n, t, H⟩ ⟨dst, op, ty, pos, after, some (j, w)⟩ = none := by
          intro h1 h2
          simp only [evWanted, hq0, hd, htd]
          cases u with
          | bool b => exact absurd rfl (h1 b)
          | tup l => cases l with
            | nil => exact absurd rfl h2
            | cons a l => rfl
          | _ => rfl
        have ss := set_same htd
        cases u with
        | bool b =>
          rw [guardW_bool]
          cases b <;> cases w
          · rw [run (by simp [evWanted, hq0, hd, htd]), splitB_false, if_pos rfl, ss]
          · rw [skip (by simp [evWanted, hq0, hd, htd])]; simp [splitB_false, ss]
          · rw [skip (by simp [evWanted, hq0, hd, htd])]; simp [splitB_true, ss]
          · rw [run (by simp [evWanted, hq0, hd, htd]), splitB_true, if_pos rfl, ss]
        | tup l =>
          cases l with
          | nil => rw [skip (by simp [evWanted, hq0, hd, htd])]; rfl
          | cons a l => rw [stuck (st (by simp) (by simp))]; rfl
        | _ => rw [stuck (st (by simp) (by simp))]; rfl

def W (P : Program) (cf : CF) (it : It) (mu : List Nat) (m : Cfg) (c : Code) (s : St) (Q : EX → St → Prop) (_t : Tag2 c Q) : Prop :=
  bindW (evCode P cf it mu m c s) (fun q => Q q.1 q.2) .mk

def thenK (k : St → Prop) (Q : EX → St → Prop) : EX → St → Prop
  | .norm, s => k s
  | e, s => Q e s
theorem thenK_norm {k : St → Prop} {Q : EX → St → Prop} {s : St} : thenK k Q .norm s = k s := rfl
theorem thenK_exit {k : St → Prop} {Q : EX → St → Prop} {s : St} {i : Nat} : thenK k Q (.exit i) s = Q (.exit i) s := rfl
theorem thenK_ret {k : St → Prop} {Q : EX → St → Prop} {s : St} : thenK k Q .ret s = Q .ret s := rfl

def blockK (l : List Nat) (id : Nat) (Q : EX → St → Prop) : EX → St → Prop
  | .exit i, s => if i = id then Q .norm (dropSt l s) else Q (.exit i) s
  | .norm, s => Q .norm (dropSt l s)
  | .ret, s => Q .ret s
theorem blockK_norm {l : List Nat} {id : Nat} {Q : EX → St → Prop} {s : St} : blockK l id Q .norm s = Q .norm (dropSt l s) := rfl
theorem blockK_ret {l : List Nat} {id : Nat} {Q : EX → St → Prop} {s : St} : blockK l id Q .ret s = Q .ret s := rfl
theorem blockK_exit {l : List Nat} {id i : Nat} {Q : EX → St → Prop} {s : St} : blockK l id Q (.exit i) s = if i = id then Q .norm (dropSt l s) else Q (.exit i) s := rfl

theorem W_seq {a b : Code} {s : St} {Q : EX → St → Prop} {τ} : W P cf it mu m (.seq a b) s Q τ = W P cf it mu m a s (thenK (fun s => W P cf it mu m b s Q .mk) Q) .mk := by
  simp only [W, evCode]
  cases evCode P cf it mu m a s with
  | none => simp [bindW]
  | some q =>
    obtain ⟨e, s'⟩ := q
    cases e <;> simp [bindW, thenK]

theorem W_region {id : Nat} {os : List Oper} {s : St} {Q : EX → St → Prop} {τ} : W P cf it mu m (.region id ⟨os⟩ false) s Q τ = WO P cf mu os os s (fun s => Q .norm (dropSt (m.dd id) (actL (m.ra id) s))) .mk := by
  simp only [W, WO, evCode, evRegion, Bool.false_eq_true, if_false, bindW_map]

theorem W_skip {s : St} {Q : EX → St → Prop} {τ} : W P cf it mu m .skip s Q τ = Q .norm s := by simp [W, evCode, bindW]
theorem W_label {l : Nat} {s : St} {Q : EX → St → Prop} {τ} : W P cf it mu m (.label l) s Q τ = Q .norm s := by simp [W, evCode, bindW]
theorem W_ret {s : St} {Q : EX → St → Prop} {τ} : W P cf it mu m .ret s Q τ = Q .ret s := by simp [W, evCode, bindW]
theorem W_exit {id : Nat} {s : St} {Q : EX → St → Prop} {τ} : W P cf it mu m (.exit id) s Q τ = Q (.exit id) s := by simp [W, evCode, bindW]
theorem W_scope {b : Code} {s : St} {Q : EX → St → Prop} {τ} : W P cf it mu m (.scope b) s Q τ = W P cf it mu m b s Q .mk := by simp [W, evCode]

theorem W_block {id : Nat} {b : Code} {s : St} {Q : EX → St → Prop} {τ} : W P cf it mu m (.block id b) s Q τ = W P cf it mu m b s (blockK (m.bd id) id Q) .mk := by
  simp only [W, evCode]
  cases evCode P cf it mu m b s with
  | none => simp [bindW]
  | some q =>
    obtain ⟨e, s'⟩ := q
    cases e with
    | exit i => by_cases h : i = id <;> simp [bindW, blockK, h]
    | norm => simp [bindW, blockK]
    | ret => simp [bindW, blockK]

theorem W_cond {d : Nat} {x y : Code} {n : Nat} {t : Tm} {H : List MB} {Q : EX → St → Prop} {τ} : W P cf it mu m (.cond (.tmp d) x y) ⟨n, t, H⟩ Q τ =
    bindW (look t d) (fun v => bindW (asB v) (fun b => splitB b (W P cf it mu m x ⟨n, upd d (.bool true) t, H⟩ Q .mk) (W P cf it mu m y ⟨n, upd d (.bool false) t, H⟩ Q .mk) .mk) .mk) .mk := by
  cases hv : look t d with
  | none =>
    have hg : lookD t d = .top := by unfold lookD; rw [hv]
    simp only [W, evCode, St.ev, hg, bindW_none]
  | some v =>
    have hg : lookD t d = v := by unfold lookD; rw [hv]
    have ss := set_same hv
    simp only [bindW_some]
    cases v with
    | bool b => cases b <;> simp only [W, evCode, St.ev, hg, asB_bool, bindW_some, splitB_true, splitB_false, ss]
    | _ => simp only [W, evCode, St.ev, hg, asB, bindW_none]

def roundK (k : St → Prop) (Q : EX → St → Prop) : EX → St → Prop
  | .norm, s => k s
  | e, s => Q e s
theorem roundK_norm {k : St → Prop} {Q : EX → St → Prop} {s : St} : roundK k Q .norm s = k s := rfl
theorem roundK_exit {k : St → Prop} {Q : EX → St → Prop} {s : St} {i : Nat} : roundK k Q (.exit i) s = Q (.exit i) s := rfl
theorem roundK_ret {k : St → Prop} {Q : EX → St → Prop} {s : St} : roundK k Q .ret s = Q .ret s := rfl

/-- A loop: whatever is true of the state ahead of a round, with a number that goes down. -/
theorem W_loop {b : Code} {Q : EX → St → Prop} (J : Nat → St → Prop) 
    (h : ∀ n s, J n s → W P cf itL mu m b (prep (m.lp (loopId b)) s) (roundK (fun s' => ∃ n', n' < n ∧ J n' s') Q) .mk) :
    ∀ (n : Nat) (s : St), J n s → W P cf itL mu m (.loop b) s Q .mk := by
  intro n
  induction n using Nat.strongRecOn with
  | ind n ih =>
    intro s hs
    obtain ⟨⟨e, s'⟩, h1, h2⟩ := h n s hs
    simp only [W, evCode]
    cases e with
    | norm =>
      obtain ⟨n', hn, hj⟩ := h2
      obtain ⟨q, q1, q2⟩ := ih n' hn s' hj
      refine ⟨q, ?_, q2⟩
      rw [itL_eq]
      simp only [evCode] at q1
      simp only [h1]; exact q1
    | exit id => exact ⟨_, by rw [itL_eq]; simp only [h1], h2⟩
    | ret => exact ⟨_, by rw [itL_eq]; simp only [h1], h2⟩

/-- A loop with a state of our own: T says how the machine's state looks at the head. -/
theorem W_for {σ : Type} {b : Code} {Q : EX → St → Prop} {M : Msk} (hM : m.lp (loopId b) = M) (T : σ → St) (Inv : σ → Prop) (μ : σ → Nat) (x0 : σ)
    (h : ∀ x, Inv x → W P cf itL mu m b (T x) (roundK (fun s' => ∃ x', Inv x' ∧ μ x' < μ x ∧ prep M s' = T x') Q) .mk)
    (h0 : Inv x0) (s : St) (hs : prep M s = T x0) : W P cf itL mu m (.loop b) s Q .mk := by
  subst hM
  refine W_loop (fun n s => ∃ x, Inv x ∧ μ x = n ∧ prep (m.lp (loopId b)) s = T x) ?_ (μ x0) s ⟨x0, h0, rfl, hs⟩
  rintro n s ⟨x, h1, rfl, h3⟩
  rw [h3]
  obtain ⟨q, q1, q2⟩ := h x h1
  refine ⟨q, q1, ?_⟩
  obtain ⟨e, s'⟩ := q
  cases e with
  | norm =>
    obtain ⟨x', a, b, c⟩ := q2
    exact ⟨_, b, x', a, rfl, c⟩
  | exit i => exact q2
  | ret => exact q2

/-- A loop that counts: `for i := 0; i < n; i++`. -/
theorem W_count {b : Code} {Q : EX → St → Prop} {M : Msk} (hM : m.lp (loopId b) = M) (N : Nat) (T : Nat → St) (Inv : Nat → Prop)
    (h : ∀ i, i < N → Inv i → W P cf itL mu m b (T i) (roundK (fun s' => Inv (i + 1) ∧ prep M s' = T (i + 1)) Q) .mk)
    (hN : Inv N → W P cf itL mu m b (T N) (roundK (fun _ => False) Q) .mk)
    (h0 : Inv 0) (s : St) (hs : prep M s = T 0) : W P cf itL mu m (.loop b) s Q .mk := by
  refine W_for hM T (fun i => i ≤ N ∧ Inv i) (fun i => N - i) 0 ?_ ⟨Nat.zero_le _, h0⟩ s hs
  rintro i ⟨h1, h2⟩
  by_cases hi : i < N
  · obtain ⟨q, q1, q2⟩ := h i hi h2
    refine ⟨q, q1, ?_⟩
    obtain ⟨e, s'⟩ := q
    cases e with
    | norm => exact ⟨i + 1, ⟨hi, q2.1⟩, by show N - (i + 1) < N - i; omega, q2.2⟩
    | exit i => exact q2
    | ret => exact q2
  · obtain rfl : i = N := by omega
    obtain ⟨q, q1, q2⟩ := hN h2
    refine ⟨q, q1, ?_⟩
    obtain ⟨e, s'⟩ := q
    cases e with
    | norm => exact q2.elim
    | exit i => exact q2
    | ret => exact q2

/-- What a body leaves is the call's result. -/
def endK (P : Program) (pol : Pol) (f : Nat) (H1 : List MB) (rs : List ResultVar) (r : AV × List MB) : EX → St → Prop
  | .exit _, _ => False
  | _, s => bindW (evResults P s rs) (fun vs => retPol pol f H1 (packRes vs) s.h = some r) .mk
theorem endK_norm {f H1 rs r s} : endK P pol f H1 rs r .norm s = bindW (evResults P s rs) (fun vs => retPol pol f H1 (packRes vs) s.h = some r) .mk := rfl
theorem endK_ret {f H1 rs r s} : endK P pol f H1 rs r .ret s = bindW (evResults P s rs) (fun vs => retPol pol f H1 (packRes vs) s.h = some r) .mk := rfl

theorem evBody_of {f : Nat} {args : List AV} {H : List MB} {r : AV × List MB} {fn : Func} {c : Code} (he : pol.ext f = none) (hf : P.funcs[f]? = some fn) (hc : fn.body = some c)
    (hn : (fn.name == "runtime.NumGoroutine") = false)
    (h : bindW (frzArgs pol f 0 args H) (fun q => W P cf it (pol.muts f) (cfgOf pol f q.2.length) c ⟨q.1.length + (fn.ntmps - q.1.length), initT 0 q.1 [], q.2⟩ (endK P pol f q.2 fn.results.toList r) .mk) .mk) :
    evBody P pol cf it f args H = some r := by
  obtain ⟨⟨as, H1⟩, hz, ⟨e, s⟩, hev, hk⟩ := h
  unfold evBody
  simp only [he, hf, hc]
  rw [if_neg (by simpa using hn)]
  simp only [hz, hev]
  cases e with
  | exit id => exact hk.elim
  | norm =>
    obtain ⟨vs, h1, h2⟩ := hk
    simp only [h1]; exact h2
  | ret =>
    obtain ⟨vs, h1, h2⟩ := hk
    simp only [h1]; exact h2

end Go.Ev
namespace Go.Ev
open Go.RowKit

variable {P : Program} {pol : Pol} {cf : CF} {it : It} {mu : List Nat} {m : Cfg}

mutual
theorem AV.beq_refl : ∀ a : AV, AV.beq a a = true
  | .top | .nilp | .nilf | .nili | .nilm => rfl
  | .int k n => by simp [AV.beq]
  | .bool x => by simp [AV.beq]
  | .str s => by simp [AV.beq]
  | .sl t xs => by simp [AV.beq, AV.beqL_refl xs]
  | .pt xs => by simp [AV.beq, AV.beqL_refl xs]
  | .rf a b c d => by simp [AV.beq]
  | .ms a b c d e => by simp [AV.beq]
  | .mpr a => by simp [AV.beq]
  | .clo f xs => by simp [AV.beq, AV.beqL_refl xs]
  | .agg xs => by simp [AV.beq, AV.beqL_refl xs]
  | .tup xs => by simp [AV.beq, AV.beqL_refl xs]
  | .ifc t x => by simp [AV.beq, AV.beq_refl x]
  | .psl a b c => by simp [AV.beq]
theorem AV.beqL_refl : ∀ l : List AV, AV.beqL l l = true
  | [] => rfl
  | x :: xs => by simp [AV.beqL, AV.beq_refl x, AV.beqL_refl xs]
end

theorem MB.beqE_refl : ∀ l : List (AV × AV), MB.beqE l l = true
  | [] => rfl
  | (a, b) :: l => by simp [MB.beqE, AV.beq_refl, MB.beqE_refl l]

theorem MB.beq_refl (b : MB) : MB.beq b b = true := by
  cases b <;> simp [MB.beq, AV.beqL_refl, MB.beqE_refl]

theorem heapEq_refl : ∀ H : List MB, heapEq H H = true
  | [] => rfl
  | b :: H => by simp [heapEq, MB.beq_refl, heapEq_refl H]

theorem sameAt_refl (id : Nat) (H : List MB) : sameAt id H H = true := by
  unfold sameAt
  cases H[id]? <;> simp [MB.beq_refl]

def dOk (os : List Oper) (_t : Tag os) : Prop := drawOk ⟨os⟩ = true

def fpL (i : Nat) (o : Option FP) : List (Nat × FP) :=
  match o with
  | some p => [(i, p)]
  | none => []
theorem fpL_some (i : Nat) (p : FP) : fpL i (some p) = [(i, p)] := rfl
theorem fpL_none (i : Nat) : fpL i none = [] := rfl

def WD (P : Program) (cf : CF) (mu : List Nat) (ops : List Oper) (i : Nat) (rest : List Oper) (s : St) (acc : List (Nat × FP)) (Q : List (Nat × FP) → St → Prop) (_t : Tag2 rest Q) : Prop :=
  bindW (evOpsD P cf mu ops i rest s) (fun q => Q (acc ++ q.1) q.2) .mk

theorem WD_nil {ops : List Oper} {i : Nat} {s : St} {acc} {Q : List (Nat × FP) → St → Prop} {τ} : WD P cf mu ops i [] s acc Q τ = Q acc s := by simp [WD, evOpsD, bindW]

theorem WD_cons {ops rest : List Oper} {i : Nat} {dst op ty pos after} {n : Nat} {t : Tm} {H : List MB} {acc} {Q : List (Nat × FP) → St → Prop} {τ} :
    WD P cf mu ops i (⟨dst, op, ty, pos, after, none⟩ :: rest) ⟨n, t, H⟩ acc Q τ =
      bindW (evOp P cf mu (St.ev ⟨n, t, H⟩) H ⟨dst, op, ty, pos, after, none⟩) (fun q => WD P cf mu ops (i + 1) rest (St.put ⟨n, t, q.2⟩ dst q.1)
        (acc ++ fpL i (footprint mu (St.ev ⟨n, t, H⟩) ⟨dst, op, ty, pos, after, none⟩ H q.2)) Q .mk) .mk := by
  simp only [WD, evOpsD, evOne, evWanted]
  cases h : evOp P cf mu (St.ev ⟨n, t, H⟩) H ⟨dst, op, ty, pos, after, none⟩ with
  | none => simp [bindW]
  | some q =>
    obtain ⟨v, H'⟩ := q
    have hp : ∀ (d : Option Tmp), (St.put ⟨n, t, H'⟩ d v).h = H' := fun d => by cases d <;> rfl
    cases h2 : evOpsD P cf mu ops (i + 1) rest (St.put ⟨n, t, H'⟩ dst v) with
    | none => simp [bindW, h2]
    | some r =>
      obtain ⟨l, s⟩ := r
      simp only [bindW_some, h2, if_true, hp]
      cases footprint mu (St.ev ⟨n, t, H⟩) ⟨dst, op, ty, pos, after, none⟩ H H' <;> simp [fpL]

theorem WD_guard {ops rest : List Oper} {i : Nat} {dst op ty pos after} {j : Nat} {w : Bool} {n : Nat} {t : Tm} {H : List MB} {acc} {Q : List (Nat × FP) → St → Prop} {τ} :
    WD P cf mu ops i (⟨dst, op, ty, pos, after, some (j, w)⟩ :: rest) ⟨n, t, H⟩ acc Q τ =
    bindW (guardV ops j t) (fun q => guardW q w t
      (fun t => bindW (evOp P cf mu (St.ev ⟨n, t, H⟩) H ⟨dst, op, ty, pos, after, none⟩) (fun q => WD P cf mu ops (i + 1) rest (St.put ⟨n, t, q.2⟩ dst q.1) (acc ++ fpL i (footprint mu (St.ev ⟨n, t, H⟩) ⟨dst, op, ty, pos, after, none⟩ H q.2)) Q .mk) .mk)
      (fun t => WD P cf mu ops (i + 1) rest (St.put ⟨n, t, H⟩ dst (.tup [])) acc Q .mk) .mk) .mk := by
  have hop : ∀ g, evOp P cf mu (St.ev ⟨n, t, H⟩) H ⟨dst, op, ty, pos, after, g⟩ = evOp P cf mu (St.ev ⟨n, t, H⟩) H ⟨dst, op, ty, pos, after, none⟩ := fun g => rfl
  have run : evWanted ops ⟨n, t, H⟩ ⟨dst, op, ty, pos, after, some (j, w)⟩ = some true → WD P cf mu ops i (⟨dst, op, ty, pos, after, some (j, w)⟩ :: rest) ⟨n, t, H⟩ acc Q τ =
      bindW (evOp P cf mu (St.ev ⟨n, t, H⟩) H ⟨dst, op, ty, pos, after, none⟩) (fun q => WD P cf mu ops (i + 1) rest (St.put ⟨n, t, q.2⟩ dst q.1) (acc ++ fpL i (footprint mu (St.ev ⟨n, t, H⟩) ⟨dst, op, ty, pos, after, none⟩ H q.2)) Q .mk) .mk := by
    intro h
    have hfp : ∀ g H', footprint mu (St.ev ⟨n, t, H⟩) ⟨dst, op, ty, pos, after, g⟩ H H' = footprint mu (St.ev ⟨n, t, H⟩) ⟨dst, op, ty, pos, after, none⟩ H H' := fun g H' => rfl
    simp only [WD, evOpsD, evOne, h, hop, hfp]
    cases evOp P cf mu (St.ev ⟨n, t, H⟩) H ⟨dst, op, ty, pos, after, none⟩ with
    | none => simp [bindW]
    | some q =>
      obtain ⟨v, H'⟩ := q
      have hp : ∀ (d : Option Tmp), (St.put ⟨n, t, H'⟩ d v).h = H' := fun d => by cases d <;> rfl
      cases h2 : evOpsD P cf mu ops (i + 1) rest (St.put ⟨n, t, H'⟩ dst v) with
      | none => simp [bindW, h2]
      | some r =>
        obtain ⟨l, s⟩ := r
        simp only [bindW_some, h2, if_true, hp]
        cases footprint mu (St.ev ⟨n, t, H⟩) ⟨dst, op, ty, pos, after, none⟩ H H' <;> simp [fpL]
  have skip : evWanted ops ⟨n, t, H⟩ ⟨dst, op, ty, pos, after, some (j, w)⟩ = some false → WD P cf mu ops i (⟨dst, op, ty, pos, after, some (j, w)⟩ :: rest) ⟨n, t, H⟩ acc Q τ =
      WD P cf mu ops (i + 1) rest (St.put ⟨n, t, H⟩ dst (.tup [])) acc Q .mk := by
    intro h
    simp only [WD, evOpsD, evOne, h]
    cases h2 : evOpsD P cf mu ops (i + 1) rest (St.put ⟨n, t, H⟩ dst (.tup [])) with
    | none => simp [bindW]
    | some r =>
      obtain ⟨l, s⟩ := r
      simp [bindW]
  have stuck : evWanted ops ⟨n, t, H⟩ ⟨dst, op, ty, pos, after, some (j, w)⟩ = none → WD P cf mu ops i (⟨dst, op, ty, pos, after, some (j, w)⟩ :: rest) ⟨n, t, H⟩ acc Q τ = False := by
    intro h
    simp only [WD, evOpsD, evOne, h, bindW_none]
  unfold guardV
  cases hq0 : ops[j]? with
  | none =>
    rw [skip (by simp [evWanted, hq0])]
    simp only [bindW_some, guardW_tup]
  | some q =>
    simp only []
    cases hd : q.dst with
    | none =>
      rw [skip (by simp [evWanted, hq0, hd])]
      simp only [bindW_some, guardW_tup]
    | some d =>
      simp only []
      cases htd : look t d with
      | none =>
        rw [stuck (by simp [evWanted, hq0, hd, htd])]
        simp [bindW]
      | some u =>
        simp only [Option.map_some, bindW_some]
        have st : (∀ b, u ≠ .bool b) → u ≠ .tup [] → evWanted ops ⟨n, t, H⟩ ⟨dst, op, ty, pos, after, some (j, w)⟩ = none := by
          intro h1 h2
          simp only [evWanted, hq0, hd, htd]
          cases u with
          | bool b => exact absurd rfl (h1 b)
          | tup l => cases l with
            | nil => exact absurd rfl h2
            | cons a l => rfl
          | _ => rfl
        have ss := set_same htd
        cases u with
        | bool b =>
          rw [guardW_bool]
          cases b <;> cases w
          · rw [run (by simp [evWanted, hq0, hd, htd]), splitB_false, if_pos rfl, ss]
          · rw [skip (by simp [evWanted, hq0, hd, htd])]; simp [splitB_false, ss]
          · rw [skip (by simp [evWanted, hq0, hd, htd])]; simp [splitB_true, ss]
          · rw [run (by simp [evWanted, hq0, hd, htd]), splitB_true, if_pos rfl, ss]
        | tup l =>
          cases l with
          | nil => rw [skip (by simp [evWanted, hq0, hd, htd])]; rfl
          | cons a l => rw [stuck (st (by simp) (by simp))]; rfl
        | _ => rw [stuck (st (by simp) (by simp))]; rfl

theorem W_draw {id : Nat} {os : List Oper} {s : St} {Q : EX → St → Prop} {τ} : W P cf it mu m (.region id ⟨os⟩ true) s Q τ = (dOk os .mk ∧ WD P cf mu os 0 os s [] (fun l s => pairsOk ⟨os⟩ l = true ∧ Q .norm (dropSt (m.dd id) (actL (m.ra id) s))) .mk) := by
  simp only [W, WD, evCode, evRegion, if_true, bindW_map, dOk]
  cases evOpsD P cf mu os 0 os s with
  | none => simp [bindW]
  | some q =>
    obtain ⟨l, s'⟩ := q
    simp only [bindW_some, List.nil_append]
    by_cases h1 : drawOk ⟨os⟩ = true <;> by_cases h2 : pairsOk ⟨os⟩ l = true <;> simp [h1, h2, bindW]

mutual
/-- Nothing in it is ever handed on otherwise than it is. -/
def AV.plain : AV → Bool
  | .rf _ _ _ _ | .ms _ _ _ _ _ | .mpr _ => false
  | .sl t xs => !t && AV.plainL xs
  | .pt xs => AV.plainL xs
  | .clo _ xs => AV.plainL xs
  | .agg xs => AV.plainL xs
  | .tup xs => AV.plainL xs
  | .ifc _ x => AV.plain x
  | _ => true
def AV.plainL : List AV → Bool
  | [] => true
  | x :: xs => AV.plain x && AV.plainL xs
end

theorem plainL_iff (l : List AV) : AV.plainL l = true ↔ ∀ x ∈ l, AV.plain x = true := by
  induction l with
  | nil => simp [AV.plainL]
  | cons a l ih => simp [AV.plainL, ih]

mutual
theorem fzA_plain (jump : List AV → List MB → Option (List AV × List MB)) : ∀ (a : AV) (H : List MB), AV.plain a = true → fzA jump a H = some (a, H)
  | .sl t xs, H, h => by
    simp only [AV.plain, Bool.and_eq_true, Bool.not_eq_true'] at h
    obtain ⟨rfl, h2⟩ := h
    simp only [fzA, fzL_plain jump xs H h2]
  | .pt xs, H, h => by simp only [AV.plain] at h; simp only [fzA, fzL_plain jump xs H h]
  | .agg xs, H, h => by simp only [AV.plain] at h; simp only [fzA, fzL_plain jump xs H h]
  | .tup xs, H, h => by simp only [AV.plain] at h; simp only [fzA, fzL_plain jump xs H h]
  | .rf _ _ _ _, H, h => by simp [AV.plain] at h
  | .ms _ _ _ _ _, H, h => by simp [AV.plain] at h
  | .mpr _, H, h => by simp [AV.plain] at h
  | .top, H, h => rfl
  | .int _ _, H, h => rfl
  | .bool _, H, h => rfl
  | .str _, H, h => rfl
  | .nilp, H, h => rfl
  | .nilf, H, h => rfl
  | .nili, H, h => rfl
  | .nilm, H, h => rfl
  | .clo _ _, H, h => rfl
  | .ifc _ _, H, h => rfl
  | .psl _ _ _, H, h => rfl
theorem fzL_plain (jump : List AV → List MB → Option (List AV × List MB)) : ∀ (l : List AV) (H : List MB), AV.plainL l = true → fzL jump l H = some (l, H)
  | [], H, _ => rfl
  | x :: xs, H, h => by
    simp only [AV.plainL, Bool.and_eq_true] at h
    simp only [fzL, fzA_plain jump x H h.1, fzL_plain jump xs H h.2]
end

mutual
theorem under_plain (n : Nat) : ∀ (a : AV), AV.plain a = true → AV.under n a = true
  | .sl t xs, h => by
    simp only [AV.plain, Bool.and_eq_true] at h
    simp only [AV.under, underL_plain n xs h.2]
  | .pt xs, h => by simp only [AV.plain] at h; simp only [AV.under, underL_plain n xs h]
  | .agg xs, h => by simp only [AV.plain] at h; simp only [AV.under, underL_plain n xs h]
  | .tup xs, h => by simp only [AV.plain] at h; simp only [AV.under, underL_plain n xs h]
  | .clo _ xs, h => by simp only [AV.plain] at h; simp only [AV.under, underL_plain n xs h]
  | .ifc _ x, h => by simp only [AV.plain] at h; simp only [AV.under, under_plain n x h]
  | .rf _ _ _ _, h => by simp [AV.plain] at h
  | .ms _ _ _ _ _, h => by simp [AV.plain] at h
  | .mpr _, h => by simp [AV.plain] at h
  | .psl _ _ _, h => rfl
  | .top, h => rfl
  | .int _ _, h => rfl
  | .bool _, h => rfl
  | .str _, h => rfl
  | .nilp, h => rfl
  | .nilf, h => rfl
  | .nili, h => rfl
  | .nilm, h => rfl
theorem underL_plain (n : Nat) : ∀ (l : List AV), AV.plainL l = true → AV.underL n l = true
  | [], _ => rfl
  | x :: xs, h => by
    simp only [AV.plainL, Bool.and_eq_true] at h
    simp only [AV.underL, under_plain n x h.1, underL_plain n xs h.2, Bool.and_self]
end

theorem fz_plain {a : AV} (H : List MB) (h : AV.plain a = true) : fz a H = some (a, H) := fzA_plain _ a H h
theorem fzs_plain {l : List AV} (H : List MB) (h : AV.plainL l = true) : fzs l H = some (l, H) := fzL_plain _ l H h

theorem keptOk_zero (H K : List MB) : keptOk 0 [] K = true := by cases K <;> rfl

/-- A result that never changes, out of a call over an empty heap. -/
theorem retPol_plain {f : Nat} {r : AV} {H : List MB} (hk : pol.keep f = false) (ho : pol.own f = false) (h : AV.plain r = true) : retPol pol f [] r H = some (r, []) := by
  unfold retPol
  simp only [hk, ho, Bool.false_eq_true, if_false, fz_plain H h, List.length_nil, under_plain 0 r h, keptOk_zero [] H, and_self, if_true, List.take_zero]

/-- A call all of whose arguments never change, of a function that is run over an empty heap. -/
theorem call_plain {f : Nat} {args : List AV} {r : AV} (hp : pol.pure f = true) (ha : AV.plainL args = true) (hr : AV.plain r = true)
    (h : evBody P pol (call P pol) itL f args [] = some (r, [])) (H : List MB) : call P pol f args H = some (r, H) := by
  have hf : ∀ (l : List AV) (i : Nat), AV.plainL l = true → frzArgs pol f i l H = some (l, H) := by
    intro l
    induction l with
    | nil => intro i _; rfl
    | cons x l ih =>
      intro i h
      simp only [AV.plainL, Bool.and_eq_true] at h
      simp only [frzArgs, fz_plain H h.1, ih (i + 1) h.2]
      split <;> simp_all
  rw [call_eq]
  unfold evStep
  rw [if_pos hp]
  simp only [hf args 0 ha, underL_plain 0 args ha, if_true, h, rebase, under_plain 0 r hr]

theorem guardW_boolT {d : Nat} {b : Bool} {t : Tm} {X Y : Tm → Prop} {τ} : guardW (d, .bool b) true t X Y τ = splitB b (X (upd d (.bool true) t)) (Y (upd d (.bool false) t)) .mk := by
  simp [guardW_bool]
theorem guardW_boolF {d : Nat} {b : Bool} {t : Tm} {X Y : Tm → Prop} {τ} : guardW (d, .bool b) false t X Y τ = splitB b (Y (upd d (.bool true) t)) (X (upd d (.bool false) t)) .mk := by
  simp [guardW_bool]
theorem put_some {n : Nat} {t : Tm} {H : List MB} {i : Nat} {v : AV} : St.put ⟨n, t, H⟩ (some i) v = ⟨n, if i < n then ins i v t else t, H⟩ := rfl
theorem put_none {n : Nat} {t : Tm} {H : List MB} {v : AV} : St.put ⟨n, t, H⟩ none v = ⟨n, t, H⟩ := rfl
theorem ev_tmp {n : Nat} {t : Tm} {H : List MB} {i : Nat} : St.ev ⟨n, t, H⟩ (.tmp i) = lookD t i := rfl
theorem ev_con {n : Nat} {t : Tm} {H : List MB} {v : Value} : St.ev ⟨n, t, H⟩ (.const v) = ofK v := rfl
theorem ev_func {n : Nat} {t : Tm} {H : List MB} {f : Nat} : St.ev ⟨n, t, H⟩ (.func f) = .clo f [] := rfl
theorem ofK_int {k : IntKind} {n : Int} : ofK (.int k n) = .int k n := rfl
theorem ofK_bool {b : Bool} : ofK (.bool b) = .bool b := rfl
theorem ofK_str {b : ByteArray} : ofK (.string b) = .str b := rfl
theorem ofK_nil : ofK (.slice none 0 0) = .sl true [] := rfl
theorem plain_int {k : IntKind} {n : Int} : AV.plain (.int k n) = true := rfl
theorem plain_bool {b : Bool} : AV.plain (.bool b) = true := rfl
theorem plain_str {b : ByteArray} : AV.plain (.str b) = true := rfl
theorem plain_sl {xs : List AV} : AV.plain (.sl false xs) = AV.plainL xs := rfl
theorem plain_agg {xs : List AV} : AV.plain (.agg xs) = AV.plainL xs := rfl
theorem plain_tup {xs : List AV} : AV.plain (.tup xs) = AV.plainL xs := rfl
theorem plainL_nil : AV.plainL [] = true := rfl
theorem plainL_cons {x : AV} {xs : List AV} : AV.plainL (x :: xs) = (AV.plain x && AV.plainL xs) := rfl

theorem frzArgs_plain {f : Nat} (hb : ∀ i, pol.byref f i = false) (H : List MB) : ∀ (l : List AV) (i : Nat), AV.plainL l = true → frzArgs pol f i l H = some (l, H)
  | [], _, _ => rfl
  | x :: l, i, h => by
    simp only [AV.plainL, Bool.and_eq_true] at h
    simp only [frzArgs, hb, Bool.false_eq_true, if_false, fz_plain H h.1, frzArgs_plain hb H l (i + 1) h.2]

/-- The results, as they are handed on. -/
def retK (P : Program) (rs : List ResultVar) (r : AV) : EX → St → Prop
  | .exit _, _ => False
  | _, s => bindW (evResults P s rs) (fun vs => ∃ H', fz (packRes vs) s.h = some (r, H')) .mk
theorem retK_norm {rs r s} : retK P rs r .norm s = bindW (evResults P s rs) (fun vs => ∃ H', fz (packRes vs) s.h = some (r, H')) .mk := rfl
theorem retK_ret {rs r s} : retK P rs r .ret s = bindW (evResults P s rs) (fun vs => ∃ H', fz (packRes vs) s.h = some (r, H')) .mk := rfl
theorem fzEx {r : AV} {H : List MB} (h : AV.plain r = true) : (∃ H', fz r H = some (r, H')) := ⟨H, fz_plain H h⟩

theorem fzEq {r r' : AV} {H : List MB} (h : AV.plain r = true) (e : r = r') : (∃ H', fz r H = some (r', H')) := ⟨H, e ▸ fz_plain H h⟩

/-- A call of a function that is run over an empty heap, and that hands on what never changes. -/
theorem call_run {f : Nat} {args : List AV} {r : AV} {fn : Func} {c : Code} (hf : P.funcs[f]? = some fn) (hc : fn.body = some c) (hn : (fn.name == "runtime.NumGoroutine") = false)
    (hp : pol.pure f = true) (he : pol.ext f = none) (hk : pol.keep f = false) (ho : pol.own f = false) (hb : ∀ i, pol.byref f i = false)
    (ha : AV.plainL args = true) (hr : AV.plain r = true)
    (h : W P (call P pol) itL (pol.muts f) (cfgOf pol f 0) c ⟨args.length + (fn.ntmps - args.length), initT 0 args [], []⟩ (retK P fn.results.toList r) .mk) (H : List MB) :
    call P pol f args H = some (r, H) := by
  refine call_plain hp ha hr ?_ H
  obtain ⟨⟨e, s⟩, hev, hk2⟩ := h
  have fin : ∀ {vs : List AV} {H' : List MB}, fz (packRes vs) s.h = some (r, H') → retPol pol f [] (packRes vs) s.h = some (r, []) := by
    intro vs H' hz
    unfold retPol
    simp only [hk, ho, Bool.false_eq_true, if_false, hz, List.length_nil, under_plain 0 r hr, keptOk_zero [] H', and_self, if_true, List.take_zero]
  unfold evBody
  simp only [he, hf, hc]
  rw [if_neg (by simpa using hn)]
  simp only [frzArgs_plain hb [] args 0 ha, List.length_nil, hev]
  cases e with
  | exit id => exact hk2.elim
  | norm =>
    obtain ⟨vs, h1, H', h2⟩ := hk2
    simp only [h1]; exact fin h2
  | ret =>
    obtain ⟨vs, h1, H', h2⟩ := hk2
    simp only [h1]; exact fin h2

theorem prep_cut {m : Msk} {n k : Nat} {t t' : Tm} {h h' : List MB} (hz : m.acts = []) (hg : m.gc = some n) (hc : keepT m.k t = t') (he : h.take n = h') (ht : AV.underL n (t'.map (·.2)) = true) (hh : h'.all (MB.under n) = true) :
    prep m ⟨k, t, h⟩ = ⟨k, t', h'⟩ := by
  subst he
  unfold prep prepG
  simp only [hz, actL, hg, hc, ht, hh, and_self, if_true]
theorem prep_act {m : Msk} {n k : Nat} {t t' : Tm} {h h' : List MB} {s1 : St} (ha : actL m.acts s1 = ⟨k, t, h⟩) (hg : m.gc = some n) (hc : keepT m.k t = t') (he : h.take n = h') (ht : AV.underL n (t'.map (·.2)) = true) (hh : h'.all (MB.under n) = true) :
    prep m s1 = ⟨k, t', h'⟩ := by
  subst he
  unfold prep prepG
  simp only [ha, hg, hc, ht, hh, and_self, if_true]
theorem prep_actN {m : Msk} {k : Nat} {t t' : Tm} {h : List MB} {s1 : St} (ha : actL m.acts s1 = ⟨k, t, h⟩) (hg : m.gc = none) (hc : keepT m.k t = t') :
    prep m s1 = ⟨k, t', h⟩ := by
  unfold prep prepG
  simp only [ha, hg, hc]

theorem look_hit {d : Nat} {v : AV} {t : Tm} : look ((d, v) :: t) d = some v := by simp [look]
theorem lookD_hit {d : Nat} {v : AV} {t : Tm} : lookD ((d, v) :: t) d = v := by simp [lookD, look]
theorem lookD_cons {k d : Nat} {v : AV} {t : Tm} : lookD ((k, v) :: t) d = if k = d then v else lookD t d := by
  by_cases h : k = d <;> simp [lookD, look, h]
theorem lookD_nil {d : Nat} : lookD [] d = .top := rfl
theorem ins_hit {d : Nat} {u v : AV} {t : Tm} : ins d v ((d, u) :: t) = (d, v) :: t := by simp [ins]
theorem upd_hit {d : Nat} {u v : AV} {t : Tm} : upd d v ((d, u) :: t) = (d, v) :: t := by simp [upd]
theorem rem1_hit {d : Nat} {u : AV} {t : Tm} : rem1 d ((d, u) :: t) = t := by simp [rem1]
theorem dropSt_eq {n : Nat} {l : List Nat} {t : Tm} {H : List MB} : dropSt l ⟨n, t, H⟩ = ⟨n, dropT l t, H⟩ := rfl
theorem cfg_dd {f n : Nat} : (cfgOf pol f n).dd = pol.dead f := rfl
theorem cfg_ra {f n : Nat} : (cfgOf pol f n).ra = pol.racts f := rfl
theorem actL_nil {s : St} : actL [] s = s := rfl
theorem actL_cons {a : SA} {l : List SA} {s : St} : actL (a :: l) s = actL l (act1 s a) := rfl
theorem updT_hit {d : Nat} {u v : AV} {t : Tm} : updT d v ((d, u) :: t) = (d, v) :: t := by simp [updT]
theorem cfg_bd {f n : Nat} : (cfgOf pol f n).bd = pol.bdead f := rfl

end Go.Ev
namespace Go.Ev
open Go.RowKit Go.IntWalk

section
variable {a b : Int}
theorem dlt_t (h : a < b) : decide (a < b) = true := decide_eq_true h
theorem dlt_f (h : b ≤ a) : decide (a < b) = false := decide_eq_false (by omega)
theorem dle_t (h : a ≤ b) : decide (a ≤ b) = true := decide_eq_true h
theorem dle_f (h : b < a) : decide (a ≤ b) = false := decide_eq_false (by omega)
theorem dgt_t (h : b < a) : decide (a > b) = true := decide_eq_true h
theorem dgt_f (h : a ≤ b) : decide (a > b) = false := decide_eq_false (by omega)
theorem dge_t (h : b ≤ a) : decide (a ≥ b) = true := decide_eq_true h
theorem dge_f (h : a < b) : decide (a ≥ b) = false := decide_eq_false (by omega)
theorem beq_t (h : a = b) : (a == b) = true := by simp [h]
theorem beq_f (h : a ≠ b) : (a == b) = false := by simp [h]
theorem bne_t (h : a ≠ b) : (a != b) = true := by simp [h]
theorem bne_f (h : a = b) : (a != b) = false := by simp [h]
theorem lt_T (h : a < b) : (a < b) = True := by simp [h]
theorem le_T (h : a ≤ b) : (a ≤ b) = True := by simp [h]
theorem eq_F (h : a ≠ b) : (a = b) = False := by simp [h]
end
theorem nle_T {a b : Nat} (h : a ≤ b) : (a ≤ b) = True := by simp [h]
theorem nle_F {a b : Nat} (h : b < a) : (a ≤ b) = False := by simp; omega
theorem wrap_up {a : Nat} (h : a ≤ 4611686018427387904) : IntKind.i64.wrap ((a : Int) + 1) = ((a + 1 : Nat) : Int) := by rw [i64_in]; rfl; omega
theorem wrap_down {a : Nat} (h : a ≤ 4611686018427387904) : IntKind.i64.wrap (((a + 1 : Nat) : Int) - 1) = (a : Int) := by rw [i64_in] <;> omega
theorem wrap_pred {a : Nat} (h : 0 < a ∧ a ≤ 4611686018427387904) : IntKind.i64.wrap ((a : Int) - 1) = ((a - 1 : Nat) : Int) := by rw [i64_in] <;> omega
theorem wrap_sub_nat {a b : Nat} (h : b ≤ a ∧ a ≤ 4611686018427387904) : IntKind.i64.wrap ((a : Int) - (b : Int)) = ((a - b : Nat) : Int) := by rw [i64_in] <;> omega
theorem nat_zero : ((0 : Nat) : Int) = 0 := rfl
theorem toNat_lit (n : Nat) : ((OfNat.ofNat n : Int)).toNat = n := rfl

section
variable {α : Type} (a0 a1 a2 a3 a4 a5 a6 a7 a8 a9 a10 a11 a12 a13 a14 a15 : α) (t : List α) (n : Nat)
theorem set_16 (v : α) : (a0 :: a1 :: a2 :: a3 :: a4 :: a5 :: a6 :: a7 :: a8 :: a9 :: a10 :: a11 :: a12 :: a13 :: a14 :: a15 :: t).set (n + 16) v = a0 :: a1 :: a2 :: a3 :: a4 :: a5 :: a6 :: a7 :: a8 :: a9 :: a10 :: a11 :: a12 :: a13 :: a14 :: a15 :: t.set n v := rfl
theorem getD_16 (d : α) : (a0 :: a1 :: a2 :: a3 :: a4 :: a5 :: a6 :: a7 :: a8 :: a9 :: a10 :: a11 :: a12 :: a13 :: a14 :: a15 :: t).getD (n + 16) d = t.getD n d := by simp [List.getD]
theorem getElem_16 : (a0 :: a1 :: a2 :: a3 :: a4 :: a5 :: a6 :: a7 :: a8 :: a9 :: a10 :: a11 :: a12 :: a13 :: a14 :: a15 :: t)[n + 16]? = t[n]? := by simp
end
section
variable {α : Type} (a0 a1 a2 a3 : α) (t : List α) (n : Nat)
theorem set_4 (v : α) : (a0 :: a1 :: a2 :: a3 :: t).set (n + 4) v = a0 :: a1 :: a2 :: a3 :: t.set n v := rfl
theorem getD_4 (d : α) : (a0 :: a1 :: a2 :: a3 :: t).getD (n + 4) d = t.getD n d := by simp [List.getD]
theorem getElem_4 : (a0 :: a1 :: a2 :: a3 :: t)[n + 4]? = t[n]? := by simp
theorem set_0 (a v : α) : (a :: t).set 0 v = v :: t := rfl
theorem set_1 (a b v : α) : (a :: b :: t).set 1 v = a :: v :: t := rfl
theorem set_2 (a b c v : α) : (a :: b :: c :: t).set 2 v = a :: b :: v :: t := rfl
theorem set_3 (a b c d v : α) : (a :: b :: c :: d :: t).set 3 v = a :: b :: c :: v :: t := rfl
end

variable {P : Program} {pol : Pol}
/-- A call over the caller's own heap. -/
theorem call_run2 {f : Nat} {args as : List AV} {H H1 : List MB} {r : AV × List MB} {fn : Func} {c : Code} (hf : P.funcs[f]? = some fn) (hc : fn.body = some c) (hn : (fn.name == "runtime.NumGoroutine") = false)
    (hp : pol.pure f = false) (he : pol.ext f = none) (ha : frzArgs pol f 0 args H = some (as, H1))
    (h : W P (call P pol) itL (pol.muts f) (cfgOf pol f H1.length) c ⟨as.length + (fn.ntmps - as.length), initT 0 as [], H1⟩ (endK P pol f H1 fn.results.toList r) .mk) :
    call P pol f args H = some r := by
  rw [call_eq]
  unfold evStep
  rw [if_neg (by simp [hp])]
  refine evBody_of he hf hc hn ?_
  rw [ha, bindW_some]
  exact h

/-- The end of such a call: the blocks that were there, as they are now. -/
theorem retPol_keep {f : Nat} {H1 H H' : List MB} {r : AV} (hk : pol.keep f = false) (ho : pol.own f = false) (hr : AV.plain r = true) (h : keptOk H1.length H1 H = true) (hh : H.take H1.length = H') :
    retPol pol f H1 r H = some (r, H') := by
  unfold retPol
  simp only [hk, ho, Bool.false_eq_true, if_false, fz_plain H hr, under_plain _ r hr, h, and_self, if_true, hh]

theorem W_mono {cf : CF} {it : It} {mu : List Nat} {m : Cfg} {c : Code} {s : St} {Q Q' : EX → St → Prop} {τ} (h : W P cf it mu m c s Q .mk) (hq : ∀ e s, Q e s → Q' e s) : W P cf it mu m c s Q' τ := by
  obtain ⟨q, h1, h2⟩ := h
  exact ⟨q, h1, hq _ _ h2⟩

/-- The ways through a part meet again behind it. -/
theorem W_cut {cf : CF} {it : It} {mu : List Nat} {m : Cfg} {c : Code} {s : St} {k : St → Prop} {Q' : EX → St → Prop} {τ} (R : St → Prop) (h : W P cf it mu m c s (fun e s => match e with | .norm => R s | e => Q' e s) .mk) (hq : ∀ s, R s → k s) :
    W P cf it mu m c s (thenK k Q') τ := by
  refine W_mono h (fun e s hs => ?_)
  cases e with
  | norm => exact hq s hs
  | exit i => exact hs
  | ret => exact hs
theorem cut_norm {R : St → Prop} {Q' : EX → St → Prop} {s : St} : (match EX.norm with | .norm => R s | e => Q' e s) = R s := rfl

theorem fzA_ms {n id k tot off len z : Nat} {H H' : List MB} {els ys : List AV} (hr : getRow H id = some (k, els, z)) (h1 : els.length = tot) (h2 : off + len ≤ tot)
    (hp : fzL (fzJ n) ((els.drop off).take len) (mark H id (off + len)) = some (ys, H')) :
    fzA (fzJ (n + 1)) (.ms id k tot off len) H = some (.sl false ys, H') := by
  simp only [fzA, hr, h1, h2, and_self, if_true, fzJ, hp]
theorem fzA_agg {j : List AV → List MB → Option (List AV × List MB)} {xs : List AV} {H : List MB} : fzA j (.agg xs) H = match fzL j xs H with
    | some (ys, H') => some (.agg ys, H')
    | none => none := rfl
theorem fzA_sl {j : List AV → List MB → Option (List AV × List MB)} {t : Bool} {xs : List AV} {H : List MB} : fzA j (.sl t xs) H = match fzL j xs H with
    | some (ys, H') => some (.sl false ys, H')
    | none => none := rfl
theorem fzA_int {j : List AV → List MB → Option (List AV × List MB)} {k : IntKind} {n : Int} {H : List MB} : fzA j (.int k n) H = some (.int k n, H) := rfl
theorem fzA_bool {j : List AV → List MB → Option (List AV × List MB)} {b : Bool} {H : List MB} : fzA j (.bool b) H = some (.bool b, H) := rfl
theorem fzL_map {α : Type} {j : List AV → List MB → Option (List AV × List MB)} {f g : α → AV} (h : ∀ a H, fzA j (f a) H = some (g a, H)) (H : List MB) : ∀ l : List α, fzL j (l.map f) H = some (l.map g, H)
  | [] => rfl
  | a :: l => by simp only [List.map_cons, fzL, h, fzL_map h H l]

end Go.Ev
namespace Go.Ev
open Go.RowKit Go.IntWalk
variable {P : Program} {pol : Pol}

theorem underL_append (n : Nat) (xs ys : List AV) : AV.underL n (xs ++ ys) = (AV.underL n xs && AV.underL n ys) := by
  induction xs with
  | nil => simp [AV.underL]
  | cons a xs ih => simp [AV.underL, ih, Bool.and_assoc]
theorem toList_some {α : Type} (a : α) : (some a).toList = [a] := rfl

def retE (P : Program) (rs : List ResultVar) (Post : AV → Prop) : EX → St → Prop
  | .exit _, _ => False
  | _, s => bindW (evResults P s rs) (fun vs => ∃ r, Post r ∧ ∃ H', fz (packRes vs) s.h = some (r, H')) .mk
theorem retE_norm {rs} {Post : AV → Prop} {s} : retE P rs Post .norm s = bindW (evResults P s rs) (fun vs => ∃ r, Post r ∧ ∃ H', fz (packRes vs) s.h = some (r, H')) .mk := rfl
theorem retE_ret {rs} {Post : AV → Prop} {s} : retE P rs Post .ret s = bindW (evResults P s rs) (fun vs => ∃ r, Post r ∧ ∃ H', fz (packRes vs) s.h = some (r, H')) .mk := rfl

theorem call_runE {f : Nat} {args : List AV} {Post : AV → Prop} {fn : Func} {c : Code} (hf : P.funcs[f]? = some fn) (hc : fn.body = some c) (hn : (fn.name == "runtime.NumGoroutine") = false)
    (hp : pol.pure f = true) (he : pol.ext f = none) (hk : pol.keep f = false) (ho : pol.own f = false) (hb : ∀ i, pol.byref f i = false)
    (ha : AV.plainL args = true) (hr : ∀ r, Post r → AV.plain r = true)
    (h : W P (call P pol) itL (pol.muts f) (cfgOf pol f 0) c ⟨args.length + (fn.ntmps - args.length), initT 0 args [], []⟩ (retE P fn.results.toList Post) .mk) (H : List MB) :
    ∃ r, Post r ∧ call P pol f args H = some (r, H) := by
  obtain ⟨⟨e, s⟩, h1, h2⟩ := h
  have key : ∃ r, Post r ∧ retK P fn.results.toList r e s := by
    cases e with
    | exit id => exact h2.elim
    | norm =>
      obtain ⟨vs, a, r, b, c⟩ := h2
      exact ⟨r, b, vs, a, c⟩
    | ret =>
      obtain ⟨vs, a, r, b, c⟩ := h2
      exact ⟨r, b, vs, a, c⟩
  obtain ⟨r, hP, hret⟩ := key
  exact ⟨r, hP, call_run hf hc hn hp he hk ho hb ha (hr r hP) ⟨(e, s), h1, hret⟩ H⟩

end Go.Ev
namespace Go.Ev
open Go.RowKit Go.IntWalk
variable {P : Program} {pol : Pol}

theorem call_runA {f : Nat} {args : List AV} {Post : AV → Prop} {fn : Func} {c : Code} (hf : P.funcs[f]? = some fn) (hc : fn.body = some c) (hn : (fn.name == "runtime.NumGoroutine") = false)
    (hp : pol.pure f = true) (he : pol.ext f = none) (hk : pol.keep f = false) (ho : pol.own f = false) (hb : ∀ i, pol.byref f i = false)
    (ha : AV.plainL args = true) (hr : ∀ r, Post r → AV.plain r = true)
    (h : W P (call P pol) itL (pol.muts f) (cfgOf pol f 0) c ⟨args.length + (fn.ntmps - args.length), initT 0 args [], []⟩ (retE P fn.results.toList Post) .mk) :
    ∃ r, Post r ∧ ∀ H, call P pol f args H = some (r, H) := by
  obtain ⟨⟨e, s⟩, h1, h2⟩ := h
  have key : ∃ r, Post r ∧ retK P fn.results.toList r e s := by
    cases e with
    | exit id => exact h2.elim
    | norm =>
      obtain ⟨vs, a, r, b, c⟩ := h2
      exact ⟨r, b, vs, a, c⟩
    | ret =>
      obtain ⟨vs, a, r, b, c⟩ := h2
      exact ⟨r, b, vs, a, c⟩
  obtain ⟨r, hP, hret⟩ := key
  exact ⟨r, hP, call_run hf hc hn hp he hk ho hb ha (hr r hP) ⟨(e, s), h1, hret⟩⟩

end Go.Ev
namespace Go.Ev
open Go.RowKit Go.IntWalk
variable {P : Program} {pol : Pol}

theorem sameAt_zero (x : MB) (l l' : List MB) : sameAt 0 (x :: l) (x :: l') = true := by simp [sameAt, MB.beq_refl]
theorem sameAt_succ (n : Nat) (x y : MB) (l l' : List MB) : sameAt (n + 1) (x :: l) (y :: l') = sameAt n l l' := by simp [sameAt]
theorem sameAt_two (x y x' : MB) (l l' : List MB) : sameAt 1 (x :: y :: l) (x' :: y :: l') = true := by simp [sameAt, MB.beq_refl]
theorem sameAt_three (x y z x' y' : MB) (l l' : List MB) : sameAt 2 (x :: y :: z :: l) (x' :: y' :: z :: l') = true := by simp [sameAt, MB.beq_refl]
theorem sameAt_four (x y z u x' y' z' : MB) (l l' : List MB) : sameAt 3 (x :: y :: z :: u :: l) (x' :: y' :: z' :: u :: l') = true := by simp [sameAt, MB.beq_refl]
theorem sameAt_five (x y z u v x' y' z' u' : MB) (l l' : List MB) : sameAt 4 (x :: y :: z :: u :: v :: l) (x' :: y' :: z' :: u' :: v :: l') = true := by simp [sameAt, MB.beq_refl]
theorem room_ok {n b : Nat} (h : n ≤ 4000000000) (hb : b ≤ 8000) : roomFor n b = true := by
  have : n * b ≤ 4000000000 * 8000 := Nat.mul_le_mul h hb
  simp [roomFor]; omega
theorem fzL_pl {j : List AV → List MB → Option (List AV × List MB)} {l : List AV} (H : List MB) (h : AV.plainL l = true) : fzL j l H = some (l, H) := fzL_plain j l H h
theorem take_len {α : Type} {l : List α} {n : Nat} (h : l.length = n) : l.take n = l := List.take_of_length_le (Nat.le_of_eq h)
theorem take_map_len {α β : Type} {f : α → β} {l : List α} {n : Nat} (h : l.length = n) : (l.map f).take n = l.map f := List.take_of_length_le (by simp [h])

/-- A row of our own, handed on: its elements, as they are. -/
theorem fzA_row {n id k tot z : Nat} {H : List MB} {els : List AV} (hr : getRow H id = some (k, els, z)) (h1 : els.length = tot) (hp : AV.plainL els = true) :
    fzA (fzJ (n + 1)) (.ms id k tot 0 tot) H = some (.sl false els, mark H id tot) := by
  have := fzA_ms (n := n) (off := 0) (len := tot) (ys := els) (H' := mark H id (0 + tot)) hr h1 (by omega) (by rw [List.drop_zero, take_len h1]; exact fzL_plain _ _ _ hp)
  rwa [Nat.zero_add] at this
theorem fz_row {id k tot z : Nat} {H : List MB} {els : List AV} (hr : getRow H id = some (k, els, z)) (h1 : els.length = tot) (hp : AV.plainL els = true) :
    fz (.ms id k tot 0 tot) H = some (.sl false els, mark H id tot) := fzA_row hr h1 hp
/-- Its first elements. -/
theorem fzA_row' {n id k tot len z : Nat} {H : List MB} {els : List AV} (hr : getRow H id = some (k, els, z)) (h1 : els.length = tot) (h2 : len ≤ tot) (hp : AV.plainL (els.take len) = true) :
    fzA (fzJ (n + 1)) (.ms id k tot 0 len) H = some (.sl false (els.take len), mark H id len) := by
  have := fzA_ms (n := n) (off := 0) (len := len) (ys := els.take len) (H' := mark H id (0 + len)) hr h1 (by omega) (by rw [List.drop_zero]; exact fzL_plain _ _ _ hp)
  rwa [Nat.zero_add] at this

theorem fz_rf {id tot i j k z : Nat} {H : List MB} {els : List AV} {x : AV} (hr : getRow H id = some (k, els, z)) (h1 : els.length = tot) (hx : els[i]? = some x) (hp : AV.plainL (x.cells.drop j) = true) :
    fz (.rf id tot i j) H = some (.pt (x.cells.drop j), mark H id (i + 1)) := by
  simp only [fz, fzA, hr, h1, if_true, hx, fzJ, fzL_plain _ _ _ hp]

/-- A loop's head, what is kept there left open. -/
theorem prep_to {m : Msk} {n k : Nat} {t : Tm} {h : List MB} {s : St} (hz : m.acts = []) (hg : m.gc = some n) (ht : AV.underL n ((keepT m.k t).map (·.2)) = true) (hh : (h.take n).all (MB.under n) = true)
    (he : (⟨k, keepT m.k t, h.take n⟩ : St) = s) : prep m ⟨k, t, h⟩ = s := by
  subst he
  exact prep_cut hz hg rfl rfl ht hh
end Go.Ev
namespace Go.Ev
theorem fzA_tup {j : List AV → List MB → Option (List AV × List MB)} {xs : List AV} {H : List MB} : fzA j (.tup xs) H = match fzL j xs H with
    | some (ys, H') => some (.tup ys, H')
    | none => none := rfl
theorem fzA_pt {j : List AV → List MB → Option (List AV × List MB)} {xs : List AV} {H : List MB} : fzA j (.pt xs) H = match fzL j xs H with
    | some (ys, H') => some (.pt ys, H')
    | none => none := rfl
theorem fz_tup_row {id k tot z : Nat} {e : Int} {H : List MB} {els : List AV} (hr : getRow H id = some (k, els, z)) (h1 : els.length = tot) (hp : AV.plainL els = true) :
    ∃ H', fz (.tup [.ms id k tot 0 tot, .int .i64 e]) H = some (.tup [.sl false els, .int .i64 e], H') := by
  refine ⟨mark H id tot, ?_⟩
  have h2 : fzA (fzJ 6) (.ms id k tot 0 tot) H = some (.sl false els, mark H id tot) := fzA_row (n := 5) hr h1 hp
  simp only [fz, fzA_tup, fzL, h2, fzA_int]
end Go.Ev
namespace Go.Ev
theorem head_take1 {α : Type} (n : Nat) (l : List α) : (l.take (n + 1)).head? = l.head? := by cases l <;> simp
variable {P : Program} {pol : Pol}
def endE (P : Program) (pol : Pol) (f : Nat) (H1 : List MB) (rs : List ResultVar) (Post : AV × List MB → Prop) : EX → St → Prop
  | .exit _, _ => False
  | _, s => bindW (evResults P s rs) (fun vs => ∃ r, Post r ∧ retPol pol f H1 (packRes vs) s.h = some r) .mk
theorem endE_norm {f H1 rs} {Post : AV × List MB → Prop} {s} : endE P pol f H1 rs Post .norm s = bindW (evResults P s rs) (fun vs => ∃ r, Post r ∧ retPol pol f H1 (packRes vs) s.h = some r) .mk := rfl
theorem endE_ret {f H1 rs} {Post : AV × List MB → Prop} {s} : endE P pol f H1 rs Post .ret s = bindW (evResults P s rs) (fun vs => ∃ r, Post r ∧ retPol pol f H1 (packRes vs) s.h = some r) .mk := rfl
/-- A call over the caller's heap, of which it is said what the result is like. -/
theorem call_run2E {f : Nat} {args l : List AV} {H H1 : List MB} {Post : AV × List MB → Prop} {fn : Func} {c : Code} (hf : P.funcs[f]? = some fn) (hc : fn.body = some c) (hn : (fn.name == "runtime.NumGoroutine") = false)
    (hp : pol.pure f = false) (he : pol.ext f = none) (ha : frzArgs pol f 0 args H = some (l, H1))
    (h : W P (call P pol) itL (pol.muts f) (cfgOf pol f H1.length) c ⟨l.length + (fn.ntmps - l.length), initT 0 l [], H1⟩ (endE P pol f H1 fn.results.toList Post) .mk) :
    ∃ r, Post r ∧ call P pol f args H = some r := by
  obtain ⟨⟨e, s⟩, h1, h2⟩ := h
  have key : ∃ r, Post r ∧ endK P pol f H1 fn.results.toList r e s := by
    cases e with
    | exit id => exact h2.elim
    | norm =>
      obtain ⟨vs, a, r, b, c⟩ := h2
      exact ⟨r, b, vs, a, c⟩
    | ret =>
      obtain ⟨vs, a, r, b, c⟩ := h2
      exact ⟨r, b, vs, a, c⟩
  obtain ⟨r, hP, hret⟩ := key
  exact ⟨r, hP, call_run2 hf hc hn hp he ha ⟨(e, s), h1, hret⟩⟩

/-- Arguments that stay as they are. -/
def mixOk (pol : Pol) (f : Nat) : Nat → List AV → Bool
  | _, [] => true
  | i, x :: l => (pol.byref f i || AV.plain x) && mixOk pol f (i + 1) l
theorem frzArgs_mix {f : Nat} (H : List MB) : ∀ (l : List AV) (i : Nat), mixOk pol f i l = true → frzArgs pol f i l H = some (l, H)
  | [], _, _ => rfl
  | x :: l, i, h => by
    simp only [mixOk, Bool.and_eq_true, Bool.or_eq_true] at h
    have h2 := frzArgs_mix H l (i + 1) h.2
    cases hb : pol.byref f i with
    | true => simp [frzArgs, hb, h2]
    | false =>
      have : AV.plain x = true := by simpa [hb] using h.1
      simp [frzArgs, hb, h2, fz_plain H this]
end Go.Ev
namespace Go.Ev
open Go.RowKit Go.IntWalk
variable {P : Program} {pol : Pol}

/-- Element by element what is handed on, whatever the heap. -/
inductive KeepL (j : List AV → List MB → Option (List AV × List MB)) : List AV → List AV → Prop where
  | nil : KeepL j [] []
  | cons {x y : AV} {a b : List AV} (h : ∀ H, fzA j x H = some (y, H)) (t : KeepL j a b) : KeepL j (x :: a) (y :: b)
theorem KeepL.fz {j : List AV → List MB → Option (List AV × List MB)} {a b : List AV} (h : KeepL j a b) (H : List MB) : fzL j a H = some (b, H) := by
  induction h with
  | nil => rfl
  | cons h _ ih => simp only [fzL, h, ih]
theorem KeepL.append {j : List AV → List MB → Option (List AV × List MB)} {a b c d : List AV} (h : KeepL j a b) (h2 : KeepL j c d) : KeepL j (a ++ c) (b ++ d) := by
  induction h with
  | nil => exact h2
  | cons h _ ih => exact .cons h ih
theorem KeepL.plain {j : List AV → List MB → Option (List AV × List MB)} : ∀ {a : List AV}, AV.plainL a = true → KeepL j a a
  | [], _ => .nil
  | x :: a, h => by
    simp only [AV.plainL, Bool.and_eq_true] at h
    exact .cons (fun H => fzA_plain j x H h.1) (KeepL.plain h.2)
theorem KeepL.one {j : List AV → List MB → Option (List AV × List MB)} {x y : AV} (h : ∀ H, fzA j x H = some (y, H)) : KeepL j [x] [y] := .cons h .nil
theorem KeepL.len {j : List AV → List MB → Option (List AV × List MB)} {a b : List AV} (h : KeepL j a b) : b.length = a.length := by
  induction h with
  | nil => rfl
  | cons _ _ ih => simp [ih]

theorem call_runO {f k n : Nat} {args els : List AV} {fn : Func} {c : Code} (hf : P.funcs[f]? = some fn) (hc : fn.body = some c) (hn : (fn.name == "runtime.NumGoroutine") = false)
    (hp : pol.pure f = true) (he : pol.ext f = none) (hb : ∀ i, pol.byref f i = false) (ha : AV.plainL args = true) (hels : AV.plainL els = true)
    (h : W P (call P pol) itL (pol.muts f) (cfgOf pol f 0) c ⟨args.length + (fn.ntmps - args.length), initT 0 args [], []⟩ (endK P pol f [] fn.results.toList (.ms 0 k n 0 n, [.row k els 0])) .mk) (H : List MB) :
    call P pol f args H = some (.ms H.length k n 0 n, H ++ [.row k els 0]) := by
  rw [call_eq]
  unfold evStep
  rw [if_pos hp]
  simp only [frzArgs_plain hb H args 0 ha, underL_plain 0 args ha, if_true]
  have hbody : evBody P pol (call P pol) itL f args [] = some (.ms 0 k n 0 n, [.row k els 0]) := by
    refine evBody_of he hf hc hn ?_
    rw [frzArgs_plain hb [] args 0 ha, bindW_some]
    exact h
  rw [hbody]
  simp only [rebase, underL_plain 0 els hels, if_true]

/-- A slice of our own, handed back: a row of its own, with elements that never change. -/
theorem retPol_own {f id k n z : Nat} {els xs : List AV} {H H' : List MB} (hk : pol.keep f = false) (ho : pol.own f = true) (hr : getRow H id = some (k, els, z)) (hl : els.length = n) (hz : fzs els H = some (xs, H')) (hr' : getRow H' id = some (k, els, 0))
    (hx : AV.plainL xs = true) (hxl : xs.length = n) : retPol pol f [] (.ms id k n 0 n) H = some (.ms 0 k n 0 n, [.row k xs 0]) := by
  unfold retPol
  simp only [hk, ho, Bool.false_eq_true, if_false, if_true, hr]
  rw [if_pos ⟨Nat.zero_le _, hl, trivial, by omega⟩]
  have ht : (els.drop 0).take n = els := by rw [List.drop_zero]; exact List.take_of_length_le (Nat.le_of_eq hl)
  simp only [ht, hz, hr', List.length_nil]
  rw [if_pos ⟨underL_plain 0 xs hx, keptOk_zero [] H', hxl, Nat.zero_le _⟩]
  simp

/-- Appending behind all that there is. -/
theorem evAppend_end {H : List MB} {sT xT e k by_ id n z : Nat} {ze x : AV} {els ys : List AV} (he : tyElem P sT = some e) (hxT : tyNotInt P xT = true) (hk : tySz P e = some k) (hby : tyBytes P e = some by_) (hze : tyZero P e = some ze) (hzl : ze.cells.length = k) (hk0 : 0 < k)
    (hs : srcElems P H e x = some ys) (hw : ys.all (fun y => decide (y.cells.length = k) && y.cells.all AV.ok) = true) (hr : getRow H id = some (k, els, z)) (hl : els.length = n) (hz : z ≤ n) (hroom : roomFor (n + ys.length) by_ = true) :
    evAppend P H sT xT (.ms id k n 0 n) x = some (.ms id k (n + ys.length) 0 (n + ys.length), H.set id (.row k (els ++ ys) z)) := by
  unfold evAppend
  simp only [he, hxT, hk, hby, hze, hs]
  rw [if_pos ⟨hw, hk0, hzl⟩]
  simp only [hr]
  rw [if_pos ⟨hl, trivial, trivial, by omega⟩]
  have hid := (List.getElem?_eq_some_iff.1 (getRow_eq hr)).1
  cases ys with
  | nil =>
    simp only [List.length_nil, Nat.add_zero, List.append_nil]
    have : H.set id (.row k els z) = H := by
      apply List.ext_getElem?
      intro q
      by_cases e : id = q
      · subst e; rw [List.getElem?_set_self hid, getRow_eq hr]
      · rw [List.getElem?_set_ne e]
    rw [this]
  | cons y ys =>
    simp only []
    rw [if_pos ⟨by omega, hroom⟩, if_neg (by simp)]
    have ht : els.take (0 + n) = els := List.take_of_length_le (by omega)
    rw [ht]
    simp
end Go.Ev
namespace Go.Ev
open Go.RowKit

def cloneOps0 (T : TypeId) (p : String) : Array Oper := #[⟨some 2, .assign (.const (.slice none 0 0)), T, p, #[], none⟩]
def cloneOps1 (T B : TypeId) (p : String) : Array Oper := #[⟨some 3, .move (.tmp 0), T, p, #[], none⟩, ⟨some 4, .binOp .eql T (.tmp 3) (.const (.slice none 0 0)) T, B, p, #[⟨0, .data⟩], none⟩]
def cloneOps3 (T : TypeId) (p : String) : Array Oper := #[⟨some 5, .buildSlice T 0 #[], T, p, #[], none⟩, ⟨some 6, .move (.tmp 0), T, p, #[], none⟩,
  ⟨some 7, .call ⟨.builtin .append, #[.tmp 5, .tmp 6], #[T, T]⟩, T, p, #[⟨0, .data⟩, ⟨1, .data⟩], none⟩,
  ⟨some 2, .assign (.tmp 7), T, p, #[⟨2, .data⟩, ⟨2, .chain⟩, ⟨0, .phase⟩, ⟨1, .phase⟩, ⟨2, .phase⟩], none⟩]
def cloneCode (T B : TypeId) (p0 p1 p2 p3 : String) : Code :=
  (Code.region 0 (cloneOps0 T p0) false).seq (((Code.region 1 (cloneOps1 T B p1) false).seq (Code.cond (.tmp 4) ((Code.region 2 (cloneOps0 T p2) false).seq Code.ret) Code.skip)).seq ((Code.region 3 (cloneOps3 T p3) false).seq Code.ret))

variable {P : Program}

theorem equalIn_sl (d : Nat) {T e : TypeId} (hu : P.underlying T = some (.slice e)) (a : Option Addr) (l c : Nat) (w : World) :
    (Op.equalIn (d + 1) T (.slice a l c) (.slice none 0 0)).run P w = .ok a.isNone w := by
  cases a <;> simp [Op.equalIn, run_underlying hu]

theorem keptOk_self (n : Nat) (K : List MB) : ∀ H : List MB, keptOk n H (H ++ K) = true
  | [] => by cases K <;> rfl
  | x :: H => by simp [keptOk, MB.beq_refl, keptOk_self n K H]

def cloneExt (k by_ : Nat) (a : List AV) (H : List MB) : Option (AV × List MB) :=
  match a with
  | [x] => match elemsOf H x with
    | some xs => if (xs.all fun y => decide (y.cells.length = k) && y.cells.all AV.ok) = true ∧ roomFor xs.length by_ = true ∧ AV.plainL xs = true then
        (match H, xs with
        | [], y :: ys => some (.ms 0 k (ys.length + 1) 0 (ys.length + 1), [.row k (y :: ys) 0])
        | _, _ => some (.sl false xs, H)) else none
    | none => none
  | _ => none

def polC : Pol := { byref := fun _ _ => false, keep := fun _ => false, own := fun _ => false, mask := fun _ _ => none, dead := fun _ _ => [], bdead := fun _ _ => [], gc := fun _ _ => none, muts := fun _ => [], pure := fun _ => false, ext := fun _ => none, acts := fun _ _ => [], racts := fun _ _ => [] }

theorem ret_nil (f : Nat) (H : List MB) : retPol polC f H (.sl true []) H = some (.sl false [], H) := by
  have h1 : fz (.sl true []) H = some (.sl false [], H) := rfl
  have h2 := keptOk_self H.length [] H
  rw [List.append_nil] at h2
  unfold retPol
  simp only [polC, Bool.false_eq_true, if_false, h1, AV.under, AV.underL, h2, and_self, if_true, List.take_length]

theorem ret_row (f k n : Nat) (H : List MB) (xs : List AV) (hn : n = xs.length) (hp : AV.plainL xs = true) : retPol polC f H (.ms H.length k n 0 n) (H ++ [.row k xs 0]) = some (.sl false xs, H) := by
  subst hn
  have hr : getRow (H ++ [.row k xs 0]) H.length = some (k, xs, 0) := by simp [getRow]
  have hm : mark (H ++ [.row k xs 0]) H.length (0 + xs.length) = H ++ [.row k xs (max 0 (0 + xs.length))] := by
    unfold mark
    rw [hr]
    simp
  have h1 : fz (.ms H.length k xs.length 0 xs.length) (H ++ [.row k xs 0]) = some (.sl false xs, H ++ [.row k xs (max 0 (0 + xs.length))]) := by
    unfold fz
    refine fzA_ms hr rfl (by omega) ?_
    rw [List.drop_zero, List.take_length, hm]
    exact fzL_plain _ _ _ hp
  have h2 := keptOk_self H.length [.row k xs (max 0 (0 + xs.length))] H
  unfold retPol
  simp only [polC, Bool.false_eq_true, if_false, h1, AV.under, underL_plain H.length xs hp, h2, and_self, if_true]
  simp

variable {B0 : Nat} {w0 : Base} {w : World} {I : Imm} {L : List Lay}
theorem cf0_ok : CfOk P (fun _ _ _ => none) := fun _ _ _ _ _ h => by cases h

theorem wpList_go {ops : Array Oper} {Q : Exit → Act → World → Prop} {o : Oper} {rest : List Oper} {a : Act} {w : World} (hg : o.guard = none) (h : o.wp P a w (wpList P ops Q rest) Q) : wpList P ops Q (o :: rest) a w := by
  unfold wpList
  rw [if_pos (by simp [Region.wanted, hg])]
  exact .inl h

theorem ret_own (f k : Nat) (y : AV) (ys : List AV) (hp : AV.plainL (y :: ys) = true) :
    retPol { polC with own := fun _ => true } f [] (.ms 0 k (ys.length + 1) 0 (ys.length + 1)) [.row k (y :: ys) 0] = some (.ms 0 k (ys.length + 1) 0 (ys.length + 1), [.row k (y :: ys) 0]) := by
  have h1 : fzs (y :: ys) [.row k (y :: ys) 0] = some (y :: ys, [.row k (y :: ys) 0]) := fzL_plain _ _ _ hp
  have h2 := underL_plain 0 (y :: ys) hp
  have h3 : ∀ K, keptOk 0 [] K = true := fun K => by cases K <;> rfl
  unfold retPol
  simp only [polC, Bool.false_eq_true, if_false, if_true, getRow, List.getElem?_cons_zero, List.length_nil, Nat.le_refl, List.length_cons, Nat.zero_add, and_self, List.drop_zero]
  rw [List.take_of_length_le (by simp)]
  simp only [h1, h2, h3, List.length_cons, Nat.zero_le, and_self, if_true, Nat.sub_self]
  simp
theorem clone_core (pol : Pol) {f : Nat} {fn : Func} {T B e k by_ : Nat} {p0 p1 p2 p3 : String} {ze : AV} (hf : P.funcs[f]? = some fn) (hc : fn.body = some (cloneCode T B p0 p1 p2 p3))
    (hn : (fn.name == "runtime.NumGoroutine") = false) (hnt : fn.ntmps = 8) (hres : fn.results.toList = [.tmp 2]) (hu : P.underlying T = some (.slice e)) (hs : tySz P e = some k) (hk : 0 < k)
    (hby : tyBytes P e = some by_) (hz : tyZero P e = some ze) (hzl : ze.cells.length = k) (hzo : ze.cells.all AV.ok = true) {x : AV} {H H' : List MB} {r : AV} {xs : List AV} (hxs : elemsOf H x = some xs)
    (c1 : (xs.all fun y => decide (y.cells.length = k) && y.cells.all AV.ok) = true) (c2 : roomFor xs.length by_ = true) (c3 : AV.plainL xs = true)
    (hA : xs = [] → retPol pol f H (.sl true []) H = some (r, H')) (hB : ∀ y ys, xs = y :: ys → retPol pol f H (.ms H.length k (ys.length + 1) 0 (ys.length + 1)) (H ++ [.row k (y :: ys) 0]) = some (r, H')) : CallSound P f [x] H r H' := by
  refine ⟨fun us w => ?_, fun B0 w0 w I L us hi hus => ?_⟩
  · unfold callFunc
    simp only [Sem.run_bind, run_program, Result.andThen_ok, hf]
    rw [if_neg (by simpa using hn), if_neg (by simp [hc])]
    rfl
  · have hlen : us.size = 1 := hus.1
    refine calls_of_wp hf hc ?_
    have hs0 : StOk B0 w0 I L ⟨8, [(0, x)], H⟩ { tmps := us ++ Array.replicate (fn.ntmps - us.size) undef, defers := [] } w := by
      refine ⟨I, L, hi, .refl I L, rfl, by simp [hlen, hnt], List.pairwise_singleton _ _, fun q hq => ?_⟩
      rw [List.mem_singleton.1 hq]
      refine ⟨by simp, ?_⟩
      have h0 := hus.2 0 x rfl
      have e1 : (us ++ Array.replicate (fn.ntmps - us.size) undef).getD 0 undef = us.getD 0 undef := by
        have hlt2 : 0 < us.size := by omega
        simp only [Array.getD_eq_getD_getElem?, Array.getElem?_append_left hlt2]
      rw [e1]; exact h0
    have fin : ∀ {v : AV} {K : List MB} {s' : St} {a' : Act} {w' : World}, StOk B0 w0 I L s' a' w' → look s'.t 2 = some v → s'.h = K → retPol pol f H v K = some (r, H') →
        bodyPost P fn (fun e w' => ∃ v I' L', e = .returned v ∧ Inv B0 w0 I' H' L' w' ∧ Ext I L I' L' ∧ Rep I' L' r v) .ret a' w' := by
      rintro v K s' a' w' ⟨I2, L2, b1, b2, b3, b4⟩ hv rfl hret
      obtain ⟨u, g1, g2⟩ := results_sound (fn := fn) (P := P) (vs := [v]) b1 b4 (by rw [hres]; simp only [evResults, evResult, hv])
      obtain ⟨I3, L3, d1, d2, d3⟩ := retPol_sound (pol := pol) hi b1 b2 g2 hret
      exact ⟨b3, u, g1, u, I3, L3, rfl, d1, d2, d3⟩
    refine wp_seq ?_
    refine wp_region_list (evOps_sound (mu := []) cf0_ok _ (s' := ⟨8, [(2, .sl true []), (0, x)], H⟩) (by rfl) hs0 (fun a1 w1 hs1 => ?_))
    refine wp_seq ?_
    refine wp_seq ?_
    refine wp_region_list ?_
    have hnil : ∀ (a2 : Act) (w2 : World), StOk B0 w0 I L ⟨8, [(3, x), (2, .sl true []), (0, x)], H⟩ a2 w2 →
        ∃ b, (execOp a2.eval (⟨some 4, .binOp .eql T (.tmp 3) (.const (.slice none 0 0)) T, B, p1, #[⟨0, .data⟩], none⟩ : Oper)).run P w2 = .ok (.value (.bool b)) w2 ∧ (b = true → xs = []) := by
      rintro a2 w2 ⟨I2, L2, b1, b2, b3, b4⟩
      have hr : Rep I2 L2 x (a2.eval (.tmp 3)) := b4.at (d := 3) rfl
      generalize hvv : a2.eval (.tmp 3) = v at hr
      have hv : ∃ a l c, v = .slice a l c ∧ (a.isNone = true → xs = []) := by
        unfold elemsOf at hxs
        split at hxs
        · simp at hxs; subst hxs
          cases hr with
          | nilsl t => exact ⟨none, 0, 0, rfl, fun _ => rfl⟩
          | sl t xs b o c k f hc ht hk hI hR => exact ⟨_, _, _, rfl, fun h => by simp at h⟩
        · cases hr with
          | ms _ _ _ _ _ l b o c hL ht hk hl hc hv => exact ⟨_, _, _, rfl, fun h => by simp at h⟩
          | msn => exact ⟨_, _, _, rfl, fun _ => by split at hxs <;> (try (split at hxs)) <;> simp at hxs <;> exact hxs⟩
        · simp at hxs
      obtain ⟨a, l, c, rfl, hvn⟩ := hv
      refine ⟨a.isNone, ?_, hvn⟩
      have he : (Op.equal T (.slice a l c) (.slice none 0 0)).run P w2 = .ok a.isNone w2 := equalIn_sl 9999 hu a l c w2
      have hq := (EqRun.of (P := P) (T := T) (ox := .tmp 3) (oy := .const (.slice none 0 0)) (a := .slice a l c) (b := .slice none 0 0) (r := a.isNone) (w := w2) rfl rfl rfl rfl he).1
      have hcon : a2.eval (.const (.slice none 0 0)) = .slice none 0 0 := rfl
      simp only [execOp, hvv, hcon]
      simp only [Sem.run_bind, Sem.run_pure] at hq ⊢
      rw [hq]
      rfl
    have hop0 : ∀ {Q : Exit → Act → World → Prop} {K : Act → World → Prop}, (∀ a' w', StOk B0 w0 I L ⟨8, [(3, x), (2, .sl true []), (0, x)], H⟩ a' w' → K a' w') →
        (⟨some 3, .move (.tmp 0), T, p1, #[], none⟩ : Oper).wp P a1 w1 K Q := fun {Q K} hK => by
      have := evOne_sound (P := P) (Q := Q) (mu := []) (cf := fun _ _ _ => none) (ops := cloneOps1 T B p1) (o := ⟨some 3, .move (.tmp 0), T, p1, #[], none⟩) cf0_ok (by rfl) hs1 hK
      rw [if_pos (by simp [Region.wanted])] at this
      exact this
    refine wpList_go (o := ⟨some 3, .move (.tmp 0), T, p1, #[], none⟩) (rest := [⟨some 4, .binOp .eql T (.tmp 3) (.const (.slice none 0 0)) T, B, p1, #[⟨0, .data⟩], none⟩]) rfl (hop0 (fun a2 w2 hs2 => ?_))
    obtain ⟨b, hb1, hb2⟩ := hnil a2 w2 hs2
    refine wpList_go rfl ?_
    show Oper.upon P _ a2 _ _ ((execOp a2.eval (⟨some 4, .binOp .eql T (.tmp 3) (.const (.slice none 0 0)) T, B, p1, #[⟨0, .data⟩], none⟩ : Oper)).run P w2)
    rw [hb1]
    have hs3 : StOk B0 w0 I L ⟨8, [(4, .bool b), (3, x), (2, .sl true []), (0, x)], H⟩ (a2.put (some 4) (.bool b)) w2 := by
      obtain ⟨I2, L2, b1, b2, b3, b4⟩ := hs2
      exact ⟨I2, L2, b1, b2, by rw [put_defers]; exact b3, put_rep b4 (some 4) (.bool b) H⟩
    show (Code.cond (.tmp 4) ((Code.region 2 (cloneOps0 T p2) false).seq Code.ret) Code.skip).wp P _ (a2.put (some 4) (.bool b)) w2
    generalize a2.put (some 4) (.bool b) = a3 at hs3 ⊢
    have he4 : a3.eval (.tmp 4) = .bool b := by
      obtain ⟨I2, L2, b1, b2, b3, b4⟩ := hs3
      have hr : Rep I2 L2 (.bool b) (a3.eval (.tmp 4)) := b4.at (d := 4) rfl
      generalize a3.eval (.tmp 4) = v at hr
      cases hr
      rfl
    cases b with
    | true =>
      refine wp_cond_true he4 ?_
      refine wp_seq ?_
      refine wp_region_list (evOps_sound (mu := []) cf0_ok _ (s' := ⟨8, [(4, .bool true), (3, x), (2, .sl true []), (0, x)], H⟩) (by rfl) hs3 (fun a4 w4 hs4 => ?_))
      refine wp_ret ?_
      have hx0 := hb2 rfl
      refine fin hs4 (v := .sl true []) rfl rfl ?_
      exact hA hx0
    | false =>
      refine wp_cond_false he4 ?_
      refine wp_skip ?_
      refine wp_seq ?_
      have hsrc : srcElems P H e x = some xs := by
        unfold srcElems
        cases x <;> first | exact hxs | (simp [elemsOf] at hxs)
      have he1 : tyElem P T = some e := by simp [tyElem, hu]
      have he2 : tyNotInt P T = true := by simp [tyNotInt, hu]
      obtain ⟨v, K, hap, hret⟩ : ∃ v K, evAppend P H T T (.sl true []) x = some (v, K) ∧ retPol pol f H v K = some (r, H') := by
        unfold evAppend
        simp only [he1, he2, hs, hby, hz, hsrc]
        rw [if_pos ⟨c1, hk, hzl⟩]
        cases xs with
        | nil => exact ⟨_, _, rfl, hA rfl⟩
        | cons y ys =>
          refine ⟨.ms H.length k (ys.length + 1) 0 (ys.length + 1), H ++ [.row k (y :: ys) 0], ?_, hB y ys rfl⟩
          simp only [List.length_nil, Nat.zero_add, List.length_cons] at c2 ⊢
          simp [c2]
      have hbs : evBuildSlice P T 0 [] = some [] := by
        unfold evBuildSlice
        simp [he1, hs, hz, hzl, hk, hzo, fillE]
      have hev : evOps P (fun _ _ _ => none) [] (cloneOps3 T p3).toList (cloneOps3 T p3).toList ⟨8, [(4, .bool false), (3, x), (2, .sl true []), (0, x)], H⟩ =
          some ⟨8, [(7, v), (6, x), (5, .sl true []), (4, .bool false), (3, x), (2, v), (0, x)], K⟩ := by
        simp [cloneOps3, evOps, evOne, evWanted, evOp, hbs, mutDst, St.put, St.ev, ins, lookD, look, evBuiltin, hap]
      refine wp_region_list (evOps_sound (mu := []) cf0_ok _ hev hs3 (fun a4 w4 hs4 => ?_))
      refine wp_ret ?_
      exact fin hs4 (v := v) rfl rfl hret

theorem clone_sound {f : Nat} {fn : Func} {T B e k by_ : Nat} {p0 p1 p2 p3 : String} {ze : AV} (hf : P.funcs[f]? = some fn) (hc : fn.body = some (cloneCode T B p0 p1 p2 p3))
    (hn : (fn.name == "runtime.NumGoroutine") = false) (hnt : fn.ntmps = 8) (hres : fn.results.toList = [.tmp 2]) (hu : P.underlying T = some (.slice e)) (hs : tySz P e = some k) (hk : 0 < k)
    (hby : tyBytes P e = some by_) (hz : tyZero P e = some ze) (hzl : ze.cells.length = k) (hzo : ze.cells.all AV.ok = true) {args : List AV} {H H' : List MB} {r : AV} (h : cloneExt k by_ args H = some (r, H')) : CallSound P f args H r H' := by
  unfold cloneExt at h
  split at h
  · rename_i x
    split at h
    · rename_i xs hxs
      split at h
      · rename_i hcond
        obtain ⟨c1, c2, c3⟩ := hcond
        split at h
        · rename_i _ _ y ys
          simp at h; obtain ⟨rfl, rfl⟩ := h
          refine clone_core { polC with own := fun _ => true } hf hc hn hnt hres hu hs hk hby hz hzl hzo hxs c1 c2 c3 (fun h => by cases h) (fun y' ys' h => ?_)
          simp at h; obtain ⟨rfl, rfl⟩ := h
          exact ret_own f k _ _ c3
        · simp at h; obtain ⟨rfl, rfl⟩ := h
          refine clone_core polC hf hc hn hnt hres hu hs hk hby hz hzl hzo hxs c1 c2 c3 (fun h => ?_) (fun y' ys' h => ?_)
          · rw [h]; exact ret_nil f _
          · rw [h]; exact ret_row f k _ _ (y' :: ys') rfl (by rw [← h]; exact c3)
      · simp at h
    · simp at h
  · simp at h

end Go.Ev
