/- Evaluation without fuel: the limit of evaluation with ever more of it. -/
import Derived.Test.YtpbobopcmhpbbaaEvFrame
set_option linter.unusedVariables false
set_option linter.unusedSimpArgs false
namespace Go.Ev
open Go.RowKit

variable {P : Program} {pol : Pol} {cf cf' : CF} {it : It} {mu : List Nat} {m : Cfg}

theorem iterN_mono {b b' : St → Option (EX × St)} (h : ∀ s r, b s = some r → b' s = some r) (m : Msk) : ∀ (n n' : Nat) (s : St) (r : EX × St), n ≤ n' → iterN b m n s = some r → iterN b' m n' s = some r
  | 0, n', s, r, _, h1 => by simp [iterN] at h1
  | n + 1, 0, s, r, hn, _ => by omega
  | n + 1, n' + 1, s, r, hn, h1 => by
    simp only [iterN] at h1 ⊢
    cases hb : b (prep m s) with
    | none => rw [hb] at h1; simp at h1
    | some q =>
      rw [hb] at h1
      rw [h _ _ hb]
      obtain ⟨e, s'⟩ := q
      cases e with
      | norm => exact iterN_mono h m n n' s' r (by omega) h1
      | exit id => exact h1
      | ret => exact h1

open Classical in
/-- A loop, as many rounds as it takes. -/
noncomputable def itL : It := fun b m s => if h : ∃ r, ∃ n, iterN b m n s = some r then some h.choose else none

theorem itL_some {b : St → Option (EX × St)} {m : Msk} {s : St} {r : EX × St} : itL b m s = some r ↔ ∃ n, iterN b m n s = some r := by
  unfold itL
  constructor
  · intro h
    split at h
    · rename_i hx
      simp at h; subst h
      exact hx.choose_spec
    · simp at h
  · rintro ⟨n, hn⟩
    rw [dif_pos ⟨r, n, hn⟩]
    obtain ⟨n', hn'⟩ := (show ∃ r, ∃ n, iterN b m n s = some r from ⟨r, n, hn⟩).choose_spec
    have h1 := iterN_mono (b := b) (fun _ _ h => h) m n (n + n') s r (by omega) hn
    have h2 := iterN_mono (b := b) (fun _ _ h => h) m n' (n + n') s _ (by omega) hn'
    rw [h1] at h2
    exact h2.symm

theorem itL_ok : ItOk itL := fun _ _ _ _ h => itL_some.1 h

/-- One round of a loop. -/
theorem itL_eq (b : St → Option (EX × St)) (m : Msk) (s : St) : itL b m s = match b (prep m s) with
    | some (.norm, s') => itL b m s'
    | r => r := by
  apply Option.ext
  intro r
  rw [itL_some]
  cases hb : b (prep m s) with
  | none =>
    simp only []
    constructor
    · rintro ⟨n, hn⟩
      cases n with
      | zero => simp [iterN] at hn
      | succ n => simp [iterN, hb] at hn
    · intro h; simp at h
  | some q =>
    obtain ⟨e, s'⟩ := q
    cases e with
    | norm =>
      simp only []
      rw [itL_some]
      constructor
      · rintro ⟨n, hn⟩
        cases n with
        | zero => simp [iterN] at hn
        | succ n => exact ⟨n, by simpa [iterN, hb] using hn⟩
      · rintro ⟨n, hn⟩
        exact ⟨n + 1, by simpa [iterN, hb] using hn⟩
    | exit id =>
      constructor
      · rintro ⟨n, hn⟩
        cases n with
        | zero => simp [iterN] at hn
        | succ n => simpa [iterN, hb] using hn
      · intro h; exact ⟨1, by simpa [iterN, hb] using h⟩
    | ret =>
      constructor
      · rintro ⟨n, hn⟩
        cases n with
        | zero => simp [iterN] at hn
        | succ n => simpa [iterN, hb] using hn
      · intro h; exact ⟨1, by simpa [iterN, hb] using h⟩

def CLe (cf cf' : CF) : Prop := ∀ f args H r, cf f args H = some r → cf' f args H = some r
def ItLe (it it' : It) : Prop := ∀ b b' m s r, (∀ s r, b s = some r → b' s = some r) → it b m s = some r → it' b' m s = some r

theorem itL_le : ItLe itL itL := fun b b' m s r h h1 => by
  rw [itL_some] at h1 ⊢
  obtain ⟨n, hn⟩ := h1
  exact ⟨n, iterN_mono h m n n s r (Nat.le_refl _) hn⟩

theorem itN_le (n : Nat) : ItLe (fun b m s => iterN b m n s) itL := fun b b' m s r h h1 => itL_some.2 ⟨n, iterN_mono h m n n s r (Nat.le_refl _) h1⟩

theorem evOp_mono (h : CLe cf cf') {ρ : Operand → AV} {H : List MB} {o : Oper} {r : AV × List MB} (h1 : evOp P cf mu ρ H o = some r) : evOp P cf' mu ρ H o = some r := by
  obtain ⟨dst, op, type, pos, after, guard⟩ := o
  cases op
  case makeFunc fn first cap => cases fn <;> exact h1
  case call c =>
   obtain ⟨callee, args, ats⟩ := c
   cases callee with
   | builtin b => exact h1
   | invoke x y => exact h1
   | value f =>
     simp only [evOp, evCall] at h1 ⊢
     split at h1
     · exact h _ _ _ _ h1
     · simp at h1
  all_goals exact h1

theorem evOne_mono (h : CLe cf cf') {ops : List Oper} {o : Oper} {s s' : St} (h1 : evOne P cf mu ops o s = some s') : evOne P cf' mu ops o s = some s' := by
  unfold evOne at h1 ⊢
  split at h1
  · split at h1
    · rename_i v H hop
      simp only [evOp_mono h hop]
      exact h1
    · simp at h1
  · exact h1
  · simp at h1

theorem evOps_mono (h : CLe cf cf') {ops : List Oper} : ∀ (l : List Oper) {s s' : St}, evOps P cf mu ops l s = some s' → evOps P cf' mu ops l s = some s'
  | [], s, s', h1 => h1
  | o :: l, s, s', h1 => by
    simp only [evOps] at h1 ⊢
    split at h1
    · rename_i s1 hs
      rw [evOne_mono h hs]
      exact evOps_mono h l h1
    · simp at h1

theorem evOpsD_mono (h : CLe cf cf') {ops : List Oper} : ∀ (l : List Oper) (i : Nat) {s : St} {r : List (Nat × FP) × St}, evOpsD P cf mu ops i l s = some r → evOpsD P cf' mu ops i l s = some r
  | [], i, s, r, h1 => h1
  | o :: l, i, s, r, h1 => by
    simp only [evOpsD] at h1 ⊢
    split at h1
    · rename_i b hb
      split at h1
      · rename_i s1 hs
        rw [evOne_mono h hs]
        simp only []
        split at h1
        · rename_i fl s2 h2
          rw [evOpsD_mono h l (i + 1) h2]
          exact h1
        · simp at h1
      · simp at h1
    · simp at h1

theorem evRegion_mono (h : CLe cf cf') {ops : Array Oper} {d : Bool} {s s' : St} (h1 : evRegion P cf mu ops d s = some s') : evRegion P cf' mu ops d s = some s' := by
  unfold evRegion at h1 ⊢
  split at h1
  · rename_i hd
    rw [if_pos hd]
    split at h1
    · rename_i fl s1 h2
      rw [evOpsD_mono h _ _ h2]
      exact h1
    · simp at h1
  · rename_i hd
    rw [if_neg hd]
    exact evOps_mono h _ h1

theorem evCode_mono (h : CLe cf cf') {it it' : It} (hi : ItLe it it') : ∀ (c : Code) {s : St} {r : EX × St}, evCode P cf it mu m c s = some r → evCode P cf' it' mu m c s = some r
  | .skip, s, r, h1 => h1
  | .label _, s, r, h1 => h1
  | .region _ ops d, s, r, h1 => by
    simp only [evCode] at h1 ⊢
    cases hr : evRegion P cf mu ops d s with
    | none => rw [hr] at h1; simp at h1
    | some s1 => rw [hr] at h1; rw [evRegion_mono h hr]; exact h1
  | .seq a b, s, r, h1 => by
    simp only [evCode] at h1 ⊢
    cases ha : evCode P cf it mu m a s with
    | none => rw [ha] at h1; simp at h1
    | some q =>
      rw [ha] at h1
      rw [evCode_mono h hi a ha]
      obtain ⟨e, s1⟩ := q
      cases e with
      | norm => exact evCode_mono h hi b h1
      | exit id => exact h1
      | ret => exact h1
  | .cond c x y, s, r, h1 => by
    simp only [evCode] at h1 ⊢
    split at h1
    · exact evCode_mono h hi x h1
    · exact evCode_mono h hi y h1
    · simp at h1
  | .block id b, s, r, h1 => by
    simp only [evCode] at h1 ⊢
    cases hb : evCode P cf it mu m b s with
    | none => rw [hb] at h1; simp at h1
    | some q =>
      rw [hb] at h1
      rw [evCode_mono h hi b hb]
      exact h1
  | .loop b, s, r, h1 => by
    simp only [evCode] at h1 ⊢
    exact hi _ _ _ _ _ (fun s r hh => evCode_mono h hi b hh) h1
  | .scope b, s, r, h1 => by
    simp only [evCode] at h1 ⊢
    exact evCode_mono h hi b h1
  | .exit _, s, r, h1 => h1
  | .ret, s, r, h1 => h1
  | .rangeFunc _ _ _ _, s, r, h1 => by simp [evCode] at h1
  | .goto _, s, r, h1 => by simp [evCode] at h1
  | .refuse _, s, r, h1 => by simp [evCode] at h1

theorem evBody_mono (h : CLe cf cf') {it it' : It} (hi : ItLe it it') : CLe (evBody P pol cf it) (evBody P pol cf' it') := by
  intro f args H r h1
  unfold evBody at h1 ⊢
  split at h1
  · exact h1
  · split at h1
    · simp at h1
    · rename_i fn hfn
      split at h1
      · simp at h1
      · rename_i c hc
        split at h1
        · simp at h1
        · rename_i hn
          rw [if_neg hn]
          split at h1
          · simp at h1
          · rename_i as H1 hz
            cases hev : evCode P cf it (pol.muts f) (cfgOf pol f H1.length) c { n := as.length + (fn.ntmps - as.length), t := initT 0 as [], h := H1 } with
            | none => rw [hev] at h1; simp at h1
            | some q =>
              rw [hev] at h1
              rw [evCode_mono h hi c hev]
              exact h1

theorem evStep_mono (h : CLe cf cf') {it it' : It} (hi : ItLe it it') : CLe (evStep P pol cf it) (evStep P pol cf' it') := by
  intro f args H r h1
  unfold evStep at h1 ⊢
  split at h1
  · rename_i hp
    rw [if_pos hp]
    split at h1
    · rename_i as H1 hz
      split at h1
      · rename_i hu
        rw [if_pos hu]
        cases hb : evBody P pol cf it f as [] with
        | none => rw [hb] at h1; simp [rebase] at h1
        | some q =>
          rw [hb] at h1
          rw [evBody_mono h hi f as [] q hb]; exact h1
      · simp at h1
    · simp at h1
  · rename_i hp
    rw [if_neg hp]
    exact evBody_mono h hi f args H r h1

/-- Calls to a depth. -/
noncomputable def cL (P : Program) (pol : Pol) : Nat → CF
  | 0 => fun _ _ _ => none
  | k + 1 => evStep P pol (cL P pol k) itL

theorem cL_step (k : Nat) : CLe (cL P pol k) (cL P pol (k + 1)) := by
  induction k with
  | zero => intro f args H r h; simp [cL] at h
  | succ k ih => exact evStep_mono ih itL_le

theorem cL_mono {k k' : Nat} (h : k ≤ k') : CLe (cL P pol k) (cL P pol k') := by
  induction h with
  | refl => exact fun _ _ _ _ h => h
  | step _ ih => exact fun f a H r h => cL_step _ f a H r (ih f a H r h)

open Classical in
/-- A call, as deep as it takes. -/
noncomputable def call (P : Program) (pol : Pol) : CF := fun f args H => if h : ∃ r, ∃ k, cL P pol k f args H = some r then some h.choose else none

theorem call_some {f : Nat} {args : List AV} {H : List MB} {r : AV × List MB} : call P pol f args H = some r ↔ ∃ k, cL P pol k f args H = some r := by
  unfold call
  constructor
  · intro h
    split at h
    · rename_i hx
      simp at h; subst h
      exact hx.choose_spec
    · simp at h
  · rintro ⟨k, hk⟩
    rw [dif_pos ⟨r, k, hk⟩]
    obtain ⟨k', hk'⟩ := (show ∃ r, ∃ k, cL P pol k f args H = some r from ⟨r, k, hk⟩).choose_spec
    have h1 := cL_mono (show k ≤ k + k' by omega) _ _ _ _ hk
    have h2 := cL_mono (show k' ≤ k + k' by omega) _ _ _ _ hk'
    rw [h1] at h2
    exact h2.symm

theorem cL_le_call (k : Nat) : CLe (cL P pol k) (call P pol) := fun _ _ _ _ h => call_some.2 ⟨k, h⟩

/-- What a run needs is found at some depth. -/
theorem evOne_fin {ops : List Oper} {o : Oper} {s s' : St} (h : evOne P (call P pol) mu ops o s = some s') : ∃ k, evOne P (cL P pol k) mu ops o s = some s' := by
  have hop : ∀ {v}, evOp P (call P pol) mu s.ev s.h o = some v → ∃ k, evOp P (cL P pol k) mu s.ev s.h o = some v := by
    intro v hv
    obtain ⟨dst, op, type, pos, after, guard⟩ := o
    cases op
    case makeFunc fn first cap => cases fn <;> exact ⟨0, hv⟩
    case call c =>
     obtain ⟨callee, args, ats⟩ := c
     cases callee with
     | builtin b => exact ⟨0, hv⟩
     | invoke x y => exact ⟨0, hv⟩
     | value f =>
       simp only [evOp, evCall] at hv ⊢
       split at hv
       · rename_i g cs hg
         obtain ⟨k, hk⟩ := call_some.1 hv
         exact ⟨k, hk⟩
       · simp at hv
    all_goals exact ⟨0, hv⟩
  unfold evOne at h
  split at h
  · rename_i hw
    split at h
    · rename_i v H hv
      obtain ⟨k, hk⟩ := hop hv
      exact ⟨k, by unfold evOne; rw [hw]; simp only [hk]; exact h⟩
    · simp at h
  · rename_i hw
    exact ⟨0, by unfold evOne; rw [hw]; exact h⟩
  · simp at h

theorem evOps_fin {ops : List Oper} : ∀ (l : List Oper) {s s' : St}, evOps P (call P pol) mu ops l s = some s' → ∃ k, evOps P (cL P pol k) mu ops l s = some s'
  | [], s, s', h => ⟨0, h⟩
  | o :: l, s, s', h => by
    simp only [evOps] at h
    split at h
    · rename_i s1 h1
      obtain ⟨k1, e1⟩ := evOne_fin h1
      obtain ⟨k2, e2⟩ := evOps_fin l h
      refine ⟨k1 + k2, ?_⟩
      simp only [evOps]
      rw [evOne_mono (cL_mono (by omega)) e1]
      exact evOps_mono (cL_mono (by omega)) l e2
    · simp at h

theorem evOpsD_fin {ops : List Oper} : ∀ (l : List Oper) (i : Nat) {s : St} {r : List (Nat × FP) × St}, evOpsD P (call P pol) mu ops i l s = some r → ∃ k, evOpsD P (cL P pol k) mu ops i l s = some r
  | [], i, s, r, h => ⟨0, h⟩
  | o :: l, i, s, r, h => by
    simp only [evOpsD] at h
    split at h
    · rename_i b hb
      split at h
      · rename_i s1 h1
        split at h
        · rename_i fl s2 h2
          obtain ⟨k1, e1⟩ := evOne_fin h1
          obtain ⟨k2, e2⟩ := evOpsD_fin l (i + 1) h2
          refine ⟨k1 + k2, ?_⟩
          simp only [evOpsD]
          rw [hb, evOne_mono (cL_mono (by omega)) e1]
          simp only []
          rw [evOpsD_mono (cL_mono (show k2 ≤ k1 + k2 by omega)) l (i + 1) e2]
          exact h
        · simp at h
      · simp at h
    · simp at h

theorem evRegion_fin {ops : Array Oper} {d : Bool} {s s' : St} (h : evRegion P (call P pol) mu ops d s = some s') : ∃ k, evRegion P (cL P pol k) mu ops d s = some s' := by
  unfold evRegion at h
  split at h
  · rename_i hd
    split at h
    · rename_i fl s1 h2
      obtain ⟨k, e⟩ := evOpsD_fin _ _ h2
      exact ⟨k, by unfold evRegion; rw [if_pos hd, e]; exact h⟩
    · simp at h
  · rename_i hd
    obtain ⟨k, e⟩ := evOps_fin _ h
    exact ⟨k, by unfold evRegion; rw [if_neg hd]; exact e⟩

theorem evCode_fin : ∀ (c : Code) {s : St} {r : EX × St}, evCode P (call P pol) itL mu m c s = some r → ∃ k, evCode P (cL P pol k) itL mu m c s = some r
  | .skip, s, r, h => ⟨0, h⟩
  | .label _, s, r, h => ⟨0, h⟩
  | .region _ ops d, s, r, h => by
    simp only [evCode] at h
    cases hr : evRegion P (call P pol) mu ops d s with
    | none => rw [hr] at h; simp at h
    | some s1 =>
      obtain ⟨k, e⟩ := evRegion_fin hr
      refine ⟨k, ?_⟩
      rw [hr] at h
      simp only [evCode, e]; exact h
  | .seq a b, s, r, h => by
    simp only [evCode] at h
    cases ha : evCode P (call P pol) itL mu m a s with
    | none => rw [ha] at h; simp at h
    | some q =>
      rw [ha] at h
      obtain ⟨k1, e1⟩ := evCode_fin a ha
      obtain ⟨e, s1⟩ := q
      cases e with
      | norm =>
        obtain ⟨k2, e2⟩ := evCode_fin b h
        refine ⟨k1 + k2, ?_⟩
        simp only [evCode]
        rw [evCode_mono (cL_mono (show k1 ≤ k1 + k2 by omega)) itL_le a e1]
        exact evCode_mono (cL_mono (show k2 ≤ k1 + k2 by omega)) itL_le b e2
      | exit id => exact ⟨k1, by simp only [evCode, e1]; exact h⟩
      | ret => exact ⟨k1, by simp only [evCode, e1]; exact h⟩
  | .cond c x y, s, r, h => by
    simp only [evCode] at h
    split at h
    · rename_i hc
      obtain ⟨k, e⟩ := evCode_fin x h
      exact ⟨k, by simp only [evCode, hc]; exact e⟩
    · rename_i hc
      obtain ⟨k, e⟩ := evCode_fin y h
      exact ⟨k, by simp only [evCode, hc]; exact e⟩
    · simp at h
  | .block id b, s, r, h => by
    simp only [evCode] at h
    cases hb : evCode P (call P pol) itL mu m b s with
    | none => rw [hb] at h; simp at h
    | some q =>
      rw [hb] at h
      obtain ⟨k, e⟩ := evCode_fin b hb
      exact ⟨k, by simp only [evCode, e]; exact h⟩
  | .loop b, s, r, h => by
    simp only [evCode] at h
    rw [itL_some] at h
    obtain ⟨n, hn⟩ := h
    suffices hs : ∀ n s, iterN (fun s => evCode P (call P pol) itL mu m b s) (m.lp (loopId b)) n s = some r → ∃ k, iterN (fun s => evCode P (cL P pol k) itL mu m b s) (m.lp (loopId b)) n s = some r by
      obtain ⟨k, e⟩ := hs n s hn
      exact ⟨k, by simp only [evCode]; exact itL_some.2 ⟨n, e⟩⟩
    clear hn n
    intro n
    induction n with
    | zero => intro s hn; simp [iterN] at hn
    | succ n ih =>
      intro s hn
      simp only [iterN] at hn
      cases hb : evCode P (call P pol) itL mu m b (prep (m.lp (loopId b)) s) with
      | none => rw [hb] at hn; simp at hn
      | some q =>
        rw [hb] at hn
        obtain ⟨k1, e1⟩ := evCode_fin b hb
        obtain ⟨e, s1⟩ := q
        cases e with
        | norm =>
          obtain ⟨k2, e2⟩ := ih s1 hn
          refine ⟨k1 + k2, ?_⟩
          simp only [iterN]
          rw [evCode_mono (cL_mono (show k1 ≤ k1 + k2 by omega)) itL_le b e1]
          exact iterN_mono (fun s r hh => evCode_mono (cL_mono (show k2 ≤ k1 + k2 by omega)) itL_le b hh) (m.lp (loopId b)) n n s1 r (Nat.le_refl _) e2
        | exit id => exact ⟨k1, by simp only [iterN, e1]; exact hn⟩
        | ret => exact ⟨k1, by simp only [iterN, e1]; exact hn⟩
  | .scope b, s, r, h => by
    simp only [evCode] at h
    obtain ⟨k, e⟩ := evCode_fin b h
    exact ⟨k, by simp only [evCode]; exact e⟩
  | .exit _, s, r, h => ⟨0, h⟩
  | .ret, s, r, h => ⟨0, h⟩
  | .rangeFunc _ _ _ _, s, r, h => by simp [evCode] at h
  | .goto _, s, r, h => by simp [evCode] at h
  | .refuse _, s, r, h => by simp [evCode] at h

theorem evBody_fin {f : Nat} {args : List AV} {H : List MB} {r : AV × List MB} (h : evBody P pol (call P pol) itL f args H = some r) : ∃ k, evBody P pol (cL P pol k) itL f args H = some r := by
    unfold evBody at h ⊢
    split at h
    · exact ⟨0, h⟩
    · split at h
      · simp at h
      · rename_i fn hfn
        split at h
        · simp at h
        · rename_i c hc
          split at h
          · simp at h
          · rename_i hn
            split at h
            · simp at h
            · rename_i as H1 hz
              cases hev : evCode P (call P pol) itL (pol.muts f) (cfgOf pol f H1.length) c { n := as.length + (fn.ntmps - as.length), t := initT 0 as [], h := H1 } with
              | none => rw [hev] at h; simp at h
              | some q =>
                obtain ⟨k, e⟩ := evCode_fin c hev
                refine ⟨k, ?_⟩
                rw [hev] at h
                rw [if_neg hn, e]
                exact h

/-- A call is its body. -/
theorem call_eq : call P pol = evStep P pol (call P pol) itL := by
  funext f args H
  apply Option.ext
  intro r
  constructor
  · intro h
    obtain ⟨k, hk⟩ := call_some.1 h
    cases k with
    | zero => simp [cL] at hk
    | succ k => exact evStep_mono (cL_le_call k) itL_le f args H r hk
  · intro h
    rw [call_some]
    suffices ∃ k, evStep P pol (cL P pol k) itL f args H = some r by
      obtain ⟨k, e⟩ := this
      exact ⟨k + 1, e⟩
    unfold evStep at h ⊢
    split at h
    · rename_i hp
      split at h
      · rename_i as H1 hz
        split at h
        · rename_i hu
          cases hb : evBody P pol (call P pol) itL f as [] with
          | none => rw [hb] at h; simp [rebase] at h
          | some q =>
            obtain ⟨k, e⟩ := evBody_fin hb
            rw [hb] at h
            exact ⟨k, by rw [if_pos hp, if_pos hu, e]; exact h⟩
        · simp at h
      · simp at h
    · rename_i hp
      obtain ⟨k, e⟩ := evBody_fin h
      exact ⟨k, by rw [if_neg hp]; exact e⟩

theorem call_ok (hext : ExtOk P pol) (hm : P.follows .mixedOrders = true) : CfOk P (call P pol) := by
  have hk : ∀ k, CfOk P (cL P pol k) := by
    intro k
    induction k with
    | zero => intro f args H r H' h; simp [cL] at h
    | succ k ih => exact evStep_sound hext ih itL_ok hm
  intro f args H r H' h
  obtain ⟨k, e⟩ := call_some.1 h
  exact hk k f args H r H' e

/-- Where evaluation with fuel comes to an end, it is the call. -/
theorem call_of_evF {n : Nat} : ∀ (k : Nat), CLe (evF P pol n k) (call P pol)
  | 0 => fun f args H r h => by simp [evF] at h
  | k + 1 => fun f args H r h => by
    rw [call_eq]
    exact evStep_mono (call_of_evF k) (itN_le n) f args H r (by simpa [evF] using h)

end Go.Ev
