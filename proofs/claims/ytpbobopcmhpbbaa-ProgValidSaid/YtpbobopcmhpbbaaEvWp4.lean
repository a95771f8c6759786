/- Rules, continued: calls whose result is known only to be one of some. -/
import Derived.Test.YtpbobopcmhpbbaaEvWp3
set_option linter.unusedVariables false
set_option linter.unusedSimpArgs false
namespace Go.Ev
open Go.RowKit Go.IntWalk
variable {P : Program} {pol : Pol}

theorem underL_append (n : Nat) (xs ys : List AV) : AV.underL n (xs ++ ys) = (AV.underL n xs && AV.underL n ys) := by
  induction xs with
  | nil => simp [AV.underL]
  | cons a xs ih => simp [AV.underL, ih, Bool.and_assoc]
theorem toList_some {α : Type} (a : α) : (some a).toList = [a] := rfl

def retE (P : Program) (rs : List ResultVar) (Post : AV → Prop) : EX → St → Prop
  | .exit _, _ => False
  | _, s => bindW (evResults P s rs) (fun vs => ∃ r, Post r ∧ ∃ H', fz (packRes vs) s.h = some (r, H')) .mk
theorem retE_norm {rs} {Post : AV → Prop} {s} : retE P rs Post .norm s = bindW (evResults P s rs) (fun vs => ∃ r, Post r ∧ ∃ H', fz (packRes vs) s.h = some (r, H')) .mk := rfl
theorem retE_ret {rs} {Post : AV → Prop} {s} : retE P rs Post .ret s = bindW (evResults P s rs) (fun vs => ∃ r, Post r ∧ ∃ H', fz (packRes vs) s.h = some (r, H')) .mk := rfl

theorem call_runE {f : Nat} {args : List AV} {Post : AV → Prop} {fn : Func} {c : Code} (hf : P.funcs[f]? = some fn) (hc : fn.body = some c) (hn : (fn.name == "runtime.NumGoroutine") = false)
    (hp : pol.pure f = true) (he : pol.ext f = none) (hk : pol.keep f = false) (ho : pol.own f = false) (hb : ∀ i, pol.byref f i = false)
    (ha : AV.plainL args = true) (hr : ∀ r, Post r → AV.plain r = true)
    (h : W P (call P pol) itL (pol.muts f) (cfgOf pol f 0) c ⟨args.length + (fn.ntmps - args.length), initT 0 args [], []⟩ (retE P fn.results.toList Post) .mk) (H : List MB) :
    ∃ r, Post r ∧ call P pol f args H = some (r, H) := by
  obtain ⟨⟨e, s⟩, h1, h2⟩ := h
  have key : ∃ r, Post r ∧ retK P fn.results.toList r e s := by
    cases e with
    | exit id => exact h2.elim
    | norm =>
      obtain ⟨vs, a, r, b, c⟩ := h2
      exact ⟨r, b, vs, a, c⟩
    | ret =>
      obtain ⟨vs, a, r, b, c⟩ := h2
      exact ⟨r, b, vs, a, c⟩
  obtain ⟨r, hP, hret⟩ := key
  exact ⟨r, hP, call_run hf hc hn hp he hk ho hb ha (hr r hP) ⟨(e, s), h1, hret⟩ H⟩

end Go.Ev
