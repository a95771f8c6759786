import Derived.Test.YtpbobopcmhpbbaaEvWp5
import Derived.Test.YtpbobopcmhpbbaaRBase
set_option linter.unusedVariables false
set_option linter.unusedSimpArgs false
namespace Go.Ev
open Go.Proofs Go.RowKit
theorem ext1 : ExtOk Try.prog pol1 := by
  intro f g hg args H r H' h
  have hf : f = 92 ∧ g = cloneExt 2 16 := by
    by_cases e : f = 92
    · subst e
      have : pol1.ext 92 = some (cloneExt 2 16) := rfl
      rw [this] at hg
      exact ⟨rfl, (Option.some.inj hg).symm⟩
    · have : pol1.ext f = none := by
        show (if f = 92 then some (cloneExt 2 16) else none) = none
        rw [if_neg e]
      rw [this] at hg
      cases hg
  obtain ⟨rfl, rfl⟩ := hf
  exact clone_sound (T := 23) (B := 4) (e := 86) (k := 2) (by_ := 16) (ze := .agg [.int .i64 0, .int .i64 0])
    Try.func92 rfl rfl rfl rfl (by kernel_rfl) (by kernel_rfl) (by omega) (by kernel_rfl) (by kernel_rfl) rfl rfl h
theorem follows1 : Try.prog.follows .mixedOrders = true := by kernel_rfl
theorem ok1 : CfOk Try.prog (call Try.prog pol1) := call_ok ext1 follows1
set_option maxRecDepth 100000 in
theorem lives18 : evF Try.prog pol1 100 40 18 [] [] = some (.bool true, []) := by kernel_rfl
theorem f18 (H : List MB) : call Try.prog pol1 18 [] H = some (.bool true, H) := by
  have h0 := call_of_evF 40 18 [] [] (.bool true, []) lives18
  rw [call_eq] at h0 ⊢
  unfold evStep at h0 ⊢
  have hp : pol1.pure 18 = true := rfl
  rw [if_pos hp] at h0 ⊢
  simp only [frzArgs, AV.underL, if_true] at h0 ⊢
  cases hb : evBody Try.prog pol1 (call Try.prog pol1) itL 18 [] [] with
  | none => rw [hb] at h0; simp [rebase] at h0
  | some q =>
    rw [hb] at h0
    obtain ⟨r, K⟩ := q
    unfold rebase at h0 ⊢
    split at h0
    · rename_i q1 r1 he
      simp at he; obtain ⟨rfl, rfl⟩ := he
      split at h0
      · rename_i hu
        simp at h0; subst h0
        rfl
      · simp at h0
    · rename_i q1 k tot off len k' els z he
      split at h0
      · simp at h0
      · simp at h0
    · simp at h0
end Go.Ev
