/- Rules by which evaluation is stepped through where values are not known. -/
import Derived.Test.YtpbobopcmhpbbaaEvLim
set_option linter.unusedVariables false
set_option linter.unusedSimpArgs false
namespace Go.Ev
universe u v
open Go.RowKit

variable {P : Program} {pol : Pol} {cf : CF} {it : It} {mu : List Nat} {m : Cfg}

/-- Holds fast what it is of: no rule is used inside. -/
structure Tag {α : Sort u} (a : α) : Type where
structure Tag2 {α : Sort u} {β : Sort v} (a : α) (b : β) : Type where

def bindW {α : Type} (o : Option α) (Q : α → Prop) (_t : Tag Q) : Prop := ∃ v, o = some v ∧ Q v
theorem bindW_some {α : Type} (v : α) (Q : α → Prop) (τ : Tag Q) : bindW (some v) Q τ = Q v := by simp [bindW]
theorem bindW_none {α : Type} (Q : α → Prop) (τ : Tag Q) : bindW none Q τ = False := by simp [bindW]
theorem bindW_map {α β : Type} (o : Option α) (f : α → β) (Q : β → Prop) (τ : Tag Q) : bindW (o.map f) Q τ = bindW o (fun v => Q (f v)) .mk := by
  cases o <;> simp [bindW]
theorem bindW_ite {α : Type} (c : Prop) [Decidable c] (a : Option α) (Q : α → Prop) (τ : Tag Q) : bindW (if c then a else none) Q τ = (c ∧ bindW a Q .mk) := by
  by_cases h : c <;> simp [h, bindW]
theorem bindW_iteN {α : Type} (c : Prop) [Decidable c] (a : Option α) (Q : α → Prop) (τ : Tag Q) : bindW (if c then none else a) Q τ = (¬c ∧ bindW a Q .mk) := by
  by_cases h : c <;> simp [h, bindW]

/-- One of two ways on. -/
def splitB (b : Bool) (X Y : Prop) (_t : Tag2 X Y) : Prop := (b = true → X) ∧ (b = false → Y)
section
variable (X Y : Prop) (τ : Tag2 X Y)
theorem splitB_true : splitB true X Y τ = X := by simp [splitB]
theorem splitB_false : splitB false X Y τ = Y := by simp [splitB]
theorem splitB_decide (p : Prop) [Decidable p] : splitB (decide p) X Y τ = ((p → X) ∧ (¬p → Y)) := by simp [splitB]
theorem splitB_beq {α : Type} [DecidableEq α] (a b : α) : splitB (a == b) X Y τ = ((a = b → X) ∧ (a ≠ b → Y)) := by simp [splitB]
theorem splitB_bne {α : Type} [DecidableEq α] (a b : α) : splitB (a != b) X Y τ = ((a ≠ b → X) ∧ (a = b → Y)) := by simp [splitB]
theorem splitB_not (b : Bool) : splitB (!b) X Y τ = splitB b Y X .mk := by cases b <;> simp [splitB]
end

def asB : AV → Option Bool
  | .bool b => some b
  | _ => none
theorem asB_bool (b : Bool) : asB (.bool b) = some b := rfl

def WO (P : Program) (cf : CF) (mu : List Nat) (ops rest : List Oper) (s : St) (Q : St → Prop) (_t : Tag2 rest Q) : Prop := bindW (evOps P cf mu ops rest s) Q .mk

theorem WO_nil {ops : List Oper} {s : St} {Q : St → Prop} {τ} : WO P cf mu ops [] s Q τ = Q s := by simp [WO, evOps, bindW]

theorem WO_cons {ops rest : List Oper} {dst op ty pos after} {n : Nat} {t : Tm} {H : List MB} {Q : St → Prop} {τ} :
    WO P cf mu ops (⟨dst, op, ty, pos, after, none⟩ :: rest) ⟨n, t, H⟩ Q τ =
      bindW (evOp P cf mu (St.ev ⟨n, t, H⟩) H ⟨dst, op, ty, pos, after, none⟩) (fun q => WO P cf mu ops rest (St.put ⟨n, t, q.2⟩ dst q.1) Q .mk) .mk := by
  simp only [WO, evOps, evOne, evWanted]
  cases h : evOp P cf mu (St.ev ⟨n, t, H⟩) H ⟨dst, op, ty, pos, after, none⟩ with
  | none => simp [bindW]
  | some q => simp [bindW]

/-- What a guard reads. -/
def guardV (ops : List Oper) (j : Nat) (t : Tm) : Option (Nat × AV) :=
  match ops[j]? with
  | some q => match q.dst with
    | some d => (look t d).map fun v => (d, v)
    | none => some (0, .tup [])
  | none => some (0, .tup [])

/-- What is known already is written in again (a test's outcome). -/
def upd (d : Nat) (v : AV) : Tm → Tm
  | [] => []
  | (k, u) :: t => if k = d then (k, v) :: t else (k, u) :: upd d v t

def guardW (q : Nat × AV) (w : Bool) (t : Tm) (X : Tm → Prop) (Y : Tm → Prop) (_t : Tag2 X Y) : Prop :=
  match q.2 with
  | .bool b => splitB b (if w = true then X (upd q.1 (.bool true) t) else Y (upd q.1 (.bool true) t)) (if w = false then X (upd q.1 (.bool false) t) else Y (upd q.1 (.bool false) t)) .mk
  | .tup [] => Y t
  | _ => False
theorem guardW_bool {d : Nat} {b w : Bool} {t : Tm} {X Y : Tm → Prop} {τ} : guardW (d, .bool b) w t X Y τ =
  splitB b (if w = true then X (upd d (.bool true) t) else Y (upd d (.bool true) t)) (if w = false then X (upd d (.bool false) t) else Y (upd d (.bool false) t)) .mk := rfl
theorem guardW_tup {d : Nat} {w : Bool} {t : Tm} {X Y : Tm → Prop} {τ} : guardW (d, .tup []) w t X Y τ = Y t := rfl

theorem set_same {d : Nat} {v : AV} : ∀ {t : Tm}, look t d = some v → upd d v t = t
  | (k, u) :: t, h => by
    simp only [look] at h
    simp only [upd]
    split
    · rename_i e
      rw [if_pos e] at h
      simp at h; rw [h]
    · rename_i e
      rw [if_neg e] at h
      rw [set_same h]

theorem WO_guard {ops rest : List Oper} {dst op ty pos after} {j : Nat} {w : Bool} {n : Nat} {t : Tm} {H : List MB} {Q : St → Prop} {τ} :
    WO P cf mu ops (⟨dst, op, ty, pos, after, some (j, w)⟩ :: rest) ⟨n, t, H⟩ Q τ =
    bindW (guardV ops j t) (fun q => guardW q w t
      (fun t => bindW (evOp P cf mu (St.ev ⟨n, t, H⟩) H ⟨dst, op, ty, pos, after, none⟩) (fun q => WO P cf mu ops rest (St.put ⟨n, t, q.2⟩ dst q.1) Q .mk) .mk)
      (fun t => WO P cf mu ops rest (St.put ⟨n, t, H⟩ dst (.tup [])) Q .mk) .mk) .mk := by
  have hop : ∀ g, evOp P cf mu (St.ev ⟨n, t, H⟩) H ⟨dst, op, ty, pos, after, g⟩ = evOp P cf mu (St.ev ⟨n, t, H⟩) H ⟨dst, op, ty, pos, after, none⟩ := fun g => rfl
  have run : evWanted ops ⟨n, t, H⟩ ⟨dst, op, ty, pos, after, some (j, w)⟩ = some true → WO P cf mu ops (⟨dst, op, ty, pos, after, some (j, w)⟩ :: rest) ⟨n, t, H⟩ Q τ =
      bindW (evOp P cf mu (St.ev ⟨n, t, H⟩) H ⟨dst, op, ty, pos, after, none⟩) (fun q => WO P cf mu ops rest (St.put ⟨n, t, q.2⟩ dst q.1) Q .mk) .mk := by
    intro h
    simp only [WO, evOps, evOne, h, hop]
    cases evOp P cf mu (St.ev ⟨n, t, H⟩) H ⟨dst, op, ty, pos, after, none⟩ <;> simp [bindW]
  have skip : evWanted ops ⟨n, t, H⟩ ⟨dst, op, ty, pos, after, some (j, w)⟩ = some false → WO P cf mu ops (⟨dst, op, ty, pos, after, some (j, w)⟩ :: rest) ⟨n, t, H⟩ Q τ =
      WO P cf mu ops rest (St.put ⟨n, t, H⟩ dst (.tup [])) Q .mk := by
    intro h
    simp only [WO, evOps, evOne, h]
  have stuck : evWanted ops ⟨n, t, H⟩ ⟨dst, op, ty, pos, after, some (j, w)⟩ = none → WO P cf mu ops (⟨dst, op, ty, pos, after, some (j, w)⟩ :: rest) ⟨n, t, H⟩ Q τ = False := by
    intro h
    simp only [WO, evOps, evOne, h, bindW_none]
  unfold guardV
  cases hq0 : ops[j]? with
  | none =>
    rw [skip (by simp [evWanted, hq0])]
    simp only [bindW_some, guardW_tup]
  | some q =>
    simp only []
    cases hd : q.dst with
    | none =>
      rw [skip (by simp [evWanted, hq0, hd])]
      simp only [bindW_some, guardW_tup]
    | some d =>
      simp only []
      cases htd : look t d with
      | none =>
        rw [stuck (by simp [evWanted, hq0, hd, htd])]
        simp [bindW]
      | some u =>
        simp only [Option.map_some, bindW_some]
        have st : (∀ b, u ≠ .bool b) → u ≠ .tup [] → evWanted ops ⟨n, t, H⟩ ⟨dst, op, ty, pos, after, some (j, w)⟩ = none := by
          intro h1 h2
          simp only [evWanted, hq0, hd, htd]
          cases u with
          | bool b => exact absurd rfl (h1 b)
          | tup l => cases l with
            | nil => exact absurd rfl h2
            | cons a l => rfl
          | _ => rfl
        have ss := set_same htd
        cases u with
        | bool b =>
          rw [guardW_bool]
          cases b <;> cases w
          · rw [run (by simp [evWanted, hq0, hd, htd]), splitB_false, if_pos rfl, ss]
          · rw [skip (by simp [evWanted, hq0, hd, htd])]; simp [splitB_false, ss]
          · rw [skip (by simp [evWanted, hq0, hd, htd])]; simp [splitB_true, ss]
          · rw [run (by simp [evWanted, hq0, hd, htd]), splitB_true, if_pos rfl, ss]
        | tup l =>
          cases l with
          | nil => rw [skip (by simp [evWanted, hq0, hd, htd])]; rfl
          | cons a l => rw [stuck (st (by simp) (by simp))]; rfl
        | _ => rw [stuck (st (by simp) (by simp))]; rfl

def W (P : Program) (cf : CF) (it : It) (mu : List Nat) (m : Cfg) (c : Code) (s : St) (Q : EX → St → Prop) (_t : Tag2 c Q) : Prop :=
  bindW (evCode P cf it mu m c s) (fun q => Q q.1 q.2) .mk

def thenK (k : St → Prop) (Q : EX → St → Prop) : EX → St → Prop
  | .norm, s => k s
  | e, s => Q e s
theorem thenK_norm {k : St → Prop} {Q : EX → St → Prop} {s : St} : thenK k Q .norm s = k s := rfl
theorem thenK_exit {k : St → Prop} {Q : EX → St → Prop} {s : St} {i : Nat} : thenK k Q (.exit i) s = Q (.exit i) s := rfl
theorem thenK_ret {k : St → Prop} {Q : EX → St → Prop} {s : St} : thenK k Q .ret s = Q .ret s := rfl

def blockK (l : List Nat) (id : Nat) (Q : EX → St → Prop) : EX → St → Prop
  | .exit i, s => if i = id then Q .norm (dropSt l s) else Q (.exit i) s
  | .norm, s => Q .norm (dropSt l s)
  | .ret, s => Q .ret s
theorem blockK_norm {l : List Nat} {id : Nat} {Q : EX → St → Prop} {s : St} : blockK l id Q .norm s = Q .norm (dropSt l s) := rfl
theorem blockK_ret {l : List Nat} {id : Nat} {Q : EX → St → Prop} {s : St} : blockK l id Q .ret s = Q .ret s := rfl
theorem blockK_exit {l : List Nat} {id i : Nat} {Q : EX → St → Prop} {s : St} : blockK l id Q (.exit i) s = if i = id then Q .norm (dropSt l s) else Q (.exit i) s := rfl

theorem W_seq {a b : Code} {s : St} {Q : EX → St → Prop} {τ} : W P cf it mu m (.seq a b) s Q τ = W P cf it mu m a s (thenK (fun s => W P cf it mu m b s Q .mk) Q) .mk := by
  simp only [W, evCode]
  cases evCode P cf it mu m a s with
  | none => simp [bindW]
  | some q =>
    obtain ⟨e, s'⟩ := q
    cases e <;> simp [bindW, thenK]

theorem W_region {id : Nat} {os : List Oper} {s : St} {Q : EX → St → Prop} {τ} : W P cf it mu m (.region id ⟨os⟩ false) s Q τ = WO P cf mu os os s (fun s => Q .norm (dropSt (m.dd id) s)) .mk := by
  simp only [W, WO, evCode, evRegion, Bool.false_eq_true, if_false, bindW_map]

theorem W_skip {s : St} {Q : EX → St → Prop} {τ} : W P cf it mu m .skip s Q τ = Q .norm s := by simp [W, evCode, bindW]
theorem W_label {l : Nat} {s : St} {Q : EX → St → Prop} {τ} : W P cf it mu m (.label l) s Q τ = Q .norm s := by simp [W, evCode, bindW]
theorem W_ret {s : St} {Q : EX → St → Prop} {τ} : W P cf it mu m .ret s Q τ = Q .ret s := by simp [W, evCode, bindW]
theorem W_exit {id : Nat} {s : St} {Q : EX → St → Prop} {τ} : W P cf it mu m (.exit id) s Q τ = Q (.exit id) s := by simp [W, evCode, bindW]
theorem W_scope {b : Code} {s : St} {Q : EX → St → Prop} {τ} : W P cf it mu m (.scope b) s Q τ = W P cf it mu m b s Q .mk := by simp [W, evCode]

theorem W_block {id : Nat} {b : Code} {s : St} {Q : EX → St → Prop} {τ} : W P cf it mu m (.block id b) s Q τ = W P cf it mu m b s (blockK (m.bd id) id Q) .mk := by
  simp only [W, evCode]
  cases evCode P cf it mu m b s with
  | none => simp [bindW]
  | some q =>
    obtain ⟨e, s'⟩ := q
    cases e with
    | exit i => by_cases h : i = id <;> simp [bindW, blockK, h]
    | norm => simp [bindW, blockK]
    | ret => simp [bindW, blockK]

theorem W_cond {d : Nat} {x y : Code} {n : Nat} {t : Tm} {H : List MB} {Q : EX → St → Prop} {τ} : W P cf it mu m (.cond (.tmp d) x y) ⟨n, t, H⟩ Q τ =
    bindW (look t d) (fun v => bindW (asB v) (fun b => splitB b (W P cf it mu m x ⟨n, upd d (.bool true) t, H⟩ Q .mk) (W P cf it mu m y ⟨n, upd d (.bool false) t, H⟩ Q .mk) .mk) .mk) .mk := by
  cases hv : look t d with
  | none =>
    have hg : lookD t d = .top := by unfold lookD; rw [hv]
    simp only [W, evCode, St.ev, hg, bindW_none]
  | some v =>
    have hg : lookD t d = v := by unfold lookD; rw [hv]
    have ss := set_same hv
    simp only [bindW_some]
    cases v with
    | bool b => cases b <;> simp only [W, evCode, St.ev, hg, asB_bool, bindW_some, splitB_true, splitB_false, ss]
    | _ => simp only [W, evCode, St.ev, hg, asB, bindW_none]

def roundK (k : St → Prop) (Q : EX → St → Prop) : EX → St → Prop
  | .norm, s => k s
  | e, s => Q e s
theorem roundK_norm {k : St → Prop} {Q : EX → St → Prop} {s : St} : roundK k Q .norm s = k s := rfl
theorem roundK_exit {k : St → Prop} {Q : EX → St → Prop} {s : St} {i : Nat} : roundK k Q (.exit i) s = Q (.exit i) s := rfl
theorem roundK_ret {k : St → Prop} {Q : EX → St → Prop} {s : St} : roundK k Q .ret s = Q .ret s := rfl

/-- A loop: whatever is true of the state ahead of a round, with a number that goes down. -/
theorem W_loop {b : Code} {Q : EX → St → Prop} (J : Nat → St → Prop) 
    (h : ∀ n s, J n s → W P cf itL mu m b (prep (m.lp (loopId b)) s) (roundK (fun s' => ∃ n', n' < n ∧ J n' s') Q) .mk) :
    ∀ (n : Nat) (s : St), J n s → W P cf itL mu m (.loop b) s Q .mk := by
  intro n
  induction n using Nat.strongRecOn with
  | ind n ih =>
    intro s hs
    obtain ⟨⟨e, s'⟩, h1, h2⟩ := h n s hs
    simp only [W, evCode]
    cases e with
    | norm =>
      obtain ⟨n', hn, hj⟩ := h2
      obtain ⟨q, q1, q2⟩ := ih n' hn s' hj
      refine ⟨q, ?_, q2⟩
      rw [itL_eq]
      simp only [evCode] at q1
      simp only [h1]; exact q1
    | exit id => exact ⟨_, by rw [itL_eq]; simp only [h1], h2⟩
    | ret => exact ⟨_, by rw [itL_eq]; simp only [h1], h2⟩

/-- A loop with a state of our own: T says how the machine's state looks at the head. -/
theorem W_for {σ : Type} {b : Code} {Q : EX → St → Prop} {M : Msk} (hM : m.lp (loopId b) = M) (T : σ → St) (Inv : σ → Prop) (μ : σ → Nat) (x0 : σ)
    (h : ∀ x, Inv x → W P cf itL mu m b (T x) (roundK (fun s' => ∃ x', Inv x' ∧ μ x' < μ x ∧ prep M s' = T x') Q) .mk)
    (h0 : Inv x0) (s : St) (hs : prep M s = T x0) : W P cf itL mu m (.loop b) s Q .mk := by
  subst hM
  refine W_loop (fun n s => ∃ x, Inv x ∧ μ x = n ∧ prep (m.lp (loopId b)) s = T x) ?_ (μ x0) s ⟨x0, h0, rfl, hs⟩
  rintro n s ⟨x, h1, rfl, h3⟩
  rw [h3]
  obtain ⟨q, q1, q2⟩ := h x h1
  refine ⟨q, q1, ?_⟩
  obtain ⟨e, s'⟩ := q
  cases e with
  | norm =>
    obtain ⟨x', a, b, c⟩ := q2
    exact ⟨_, b, x', a, rfl, c⟩
  | exit i => exact q2
  | ret => exact q2

/-- A loop that counts: `for i := 0; i < n; i++`. -/
theorem W_count {b : Code} {Q : EX → St → Prop} {M : Msk} (hM : m.lp (loopId b) = M) (N : Nat) (T : Nat → St) (Inv : Nat → Prop)
    (h : ∀ i, i < N → Inv i → W P cf itL mu m b (T i) (roundK (fun s' => Inv (i + 1) ∧ prep M s' = T (i + 1)) Q) .mk)
    (hN : Inv N → W P cf itL mu m b (T N) (roundK (fun _ => False) Q) .mk)
    (h0 : Inv 0) (s : St) (hs : prep M s = T 0) : W P cf itL mu m (.loop b) s Q .mk := by
  refine W_for hM T (fun i => i ≤ N ∧ Inv i) (fun i => N - i) 0 ?_ ⟨Nat.zero_le _, h0⟩ s hs
  rintro i ⟨h1, h2⟩
  by_cases hi : i < N
  · obtain ⟨q, q1, q2⟩ := h i hi h2
    refine ⟨q, q1, ?_⟩
    obtain ⟨e, s'⟩ := q
    cases e with
    | norm => exact ⟨i + 1, ⟨hi, q2.1⟩, by show N - (i + 1) < N - i; omega, q2.2⟩
    | exit i => exact q2
    | ret => exact q2
  · obtain rfl : i = N := by omega
    obtain ⟨q, q1, q2⟩ := hN h2
    refine ⟨q, q1, ?_⟩
    obtain ⟨e, s'⟩ := q
    cases e with
    | norm => exact q2.elim
    | exit i => exact q2
    | ret => exact q2

/-- What a body leaves is the call's result. -/
def endK (P : Program) (pol : Pol) (f : Nat) (H1 : List MB) (rs : List ResultVar) (r : AV × List MB) : EX → St → Prop
  | .exit _, _ => False
  | _, s => bindW (evResults P s rs) (fun vs => retPol pol f H1 (packRes vs) s.h = some r) .mk
theorem endK_norm {f H1 rs r s} : endK P pol f H1 rs r .norm s = bindW (evResults P s rs) (fun vs => retPol pol f H1 (packRes vs) s.h = some r) .mk := rfl
theorem endK_ret {f H1 rs r s} : endK P pol f H1 rs r .ret s = bindW (evResults P s rs) (fun vs => retPol pol f H1 (packRes vs) s.h = some r) .mk := rfl

theorem evBody_of {f : Nat} {args : List AV} {H : List MB} {r : AV × List MB} {fn : Func} {c : Code} (he : pol.ext f = none) (hf : P.funcs[f]? = some fn) (hc : fn.body = some c)
    (hn : (fn.name == "runtime.NumGoroutine") = false)
    (h : bindW (frzArgs pol f 0 args H) (fun q => W P cf it (pol.muts f) (cfgOf pol f q.2.length) c ⟨q.1.length + (fn.ntmps - q.1.length), initT 0 q.1 [], q.2⟩ (endK P pol f q.2 fn.results.toList r) .mk) .mk) :
    evBody P pol cf it f args H = some r := by
  obtain ⟨⟨as, H1⟩, hz, ⟨e, s⟩, hev, hk⟩ := h
  unfold evBody
  simp only [he, hf, hc]
  rw [if_neg (by simpa using hn)]
  simp only [hz, hev]
  cases e with
  | exit id => exact hk.elim
  | norm =>
    obtain ⟨vs, h1, h2⟩ := hk
    simp only [h1]; exact h2
  | ret =>
    obtain ⟨vs, h1, h2⟩ := hk
    simp only [h1]; exact h2

end Go.Ev
