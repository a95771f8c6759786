/- Rules, continued: comparisons that arithmetic decides. -/
import Derived.Test.YtpbobopcmhpbbaaEvWp2
import Derived.IntWalk
set_option linter.unusedVariables false
set_option linter.unusedSimpArgs false
namespace Go.Ev
open Go.RowKit Go.IntWalk

section
variable {a b : Int}
theorem dlt_t (h : a < b) : decide (a < b) = true := decide_eq_true h
theorem dlt_f (h : b ≤ a) : decide (a < b) = false := decide_eq_false (by omega)
theorem dle_t (h : a ≤ b) : decide (a ≤ b) = true := decide_eq_true h
theorem dle_f (h : b < a) : decide (a ≤ b) = false := decide_eq_false (by omega)
theorem dgt_t (h : b < a) : decide (a > b) = true := decide_eq_true h
theorem dgt_f (h : a ≤ b) : decide (a > b) = false := decide_eq_false (by omega)
theorem dge_t (h : b ≤ a) : decide (a ≥ b) = true := decide_eq_true h
theorem dge_f (h : a < b) : decide (a ≥ b) = false := decide_eq_false (by omega)
theorem beq_t (h : a = b) : (a == b) = true := by simp [h]
theorem beq_f (h : a ≠ b) : (a == b) = false := by simp [h]
theorem bne_t (h : a ≠ b) : (a != b) = true := by simp [h]
theorem bne_f (h : a = b) : (a != b) = false := by simp [h]
theorem lt_T (h : a < b) : (a < b) = True := by simp [h]
theorem le_T (h : a ≤ b) : (a ≤ b) = True := by simp [h]
theorem eq_F (h : a ≠ b) : (a = b) = False := by simp [h]
end
theorem nle_T {a b : Nat} (h : a ≤ b) : (a ≤ b) = True := by simp [h]
theorem nle_F {a b : Nat} (h : b < a) : (a ≤ b) = False := by simp; omega
theorem wrap_up {a : Nat} (h : a ≤ 4611686018427387904) : IntKind.i64.wrap ((a : Int) + 1) = ((a + 1 : Nat) : Int) := by rw [i64_in]; rfl; omega
theorem wrap_down {a : Nat} (h : a ≤ 4611686018427387904) : IntKind.i64.wrap (((a + 1 : Nat) : Int) - 1) = (a : Int) := by rw [i64_in] <;> omega
theorem wrap_pred {a : Nat} (h : 0 < a ∧ a ≤ 4611686018427387904) : IntKind.i64.wrap ((a : Int) - 1) = ((a - 1 : Nat) : Int) := by rw [i64_in] <;> omega
theorem wrap_sub_nat {a b : Nat} (h : b ≤ a ∧ a ≤ 4611686018427387904) : IntKind.i64.wrap ((a : Int) - (b : Int)) = ((a - b : Nat) : Int) := by rw [i64_in] <;> omega
theorem nat_zero : ((0 : Nat) : Int) = 0 := rfl
theorem toNat_lit (n : Nat) : ((OfNat.ofNat n : Int)).toNat = n := rfl

section
variable {α : Type} (a0 a1 a2 a3 a4 a5 a6 a7 a8 a9 a10 a11 a12 a13 a14 a15 : α) (t : List α) (n : Nat)
theorem set_16 (v : α) : (a0 :: a1 :: a2 :: a3 :: a4 :: a5 :: a6 :: a7 :: a8 :: a9 :: a10 :: a11 :: a12 :: a13 :: a14 :: a15 :: t).set (n + 16) v = a0 :: a1 :: a2 :: a3 :: a4 :: a5 :: a6 :: a7 :: a8 :: a9 :: a10 :: a11 :: a12 :: a13 :: a14 :: a15 :: t.set n v := rfl
theorem getD_16 (d : α) : (a0 :: a1 :: a2 :: a3 :: a4 :: a5 :: a6 :: a7 :: a8 :: a9 :: a10 :: a11 :: a12 :: a13 :: a14 :: a15 :: t).getD (n + 16) d = t.getD n d := by simp [List.getD]
theorem getElem_16 : (a0 :: a1 :: a2 :: a3 :: a4 :: a5 :: a6 :: a7 :: a8 :: a9 :: a10 :: a11 :: a12 :: a13 :: a14 :: a15 :: t)[n + 16]? = t[n]? := by simp
end
section
variable {α : Type} (a0 a1 a2 a3 : α) (t : List α) (n : Nat)
theorem set_4 (v : α) : (a0 :: a1 :: a2 :: a3 :: t).set (n + 4) v = a0 :: a1 :: a2 :: a3 :: t.set n v := rfl
theorem getD_4 (d : α) : (a0 :: a1 :: a2 :: a3 :: t).getD (n + 4) d = t.getD n d := by simp [List.getD]
theorem getElem_4 : (a0 :: a1 :: a2 :: a3 :: t)[n + 4]? = t[n]? := by simp
theorem set_0 (a v : α) : (a :: t).set 0 v = v :: t := rfl
theorem set_1 (a b v : α) : (a :: b :: t).set 1 v = a :: v :: t := rfl
theorem set_2 (a b c v : α) : (a :: b :: c :: t).set 2 v = a :: b :: v :: t := rfl
theorem set_3 (a b c d v : α) : (a :: b :: c :: d :: t).set 3 v = a :: b :: c :: v :: t := rfl
end

variable {P : Program} {pol : Pol}
/-- A call over the caller's own heap. -/
theorem call_run2 {f : Nat} {args as : List AV} {H H1 : List MB} {r : AV × List MB} {fn : Func} {c : Code} (hf : P.funcs[f]? = some fn) (hc : fn.body = some c) (hn : (fn.name == "runtime.NumGoroutine") = false)
    (hp : pol.pure f = false) (he : pol.ext f = none) (ha : frzArgs pol f 0 args H = some (as, H1))
    (h : W P (call P pol) itL (pol.muts f) (cfgOf pol f H1.length) c ⟨as.length + (fn.ntmps - as.length), initT 0 as [], H1⟩ (endK P pol f H1 fn.results.toList r) .mk) :
    call P pol f args H = some r := by
  rw [call_eq]
  unfold evStep
  rw [if_neg (by simp [hp])]
  refine evBody_of he hf hc hn ?_
  rw [ha, bindW_some]
  exact h

/-- The end of such a call: the blocks that were there, as they are now. -/
theorem retPol_keep {f : Nat} {H1 H H' : List MB} {r : AV} (hk : pol.keep f = false) (ho : pol.own f = false) (hr : AV.plain r = true) (h : keptOk H1.length H1 H = true) (hh : H.take H1.length = H') :
    retPol pol f H1 r H = some (r, H') := by
  unfold retPol
  simp only [hk, ho, Bool.false_eq_true, if_false, fz_plain H hr, under_plain _ r hr, h, and_self, if_true, hh]

theorem W_mono {cf : CF} {it : It} {mu : List Nat} {m : Cfg} {c : Code} {s : St} {Q Q' : EX → St → Prop} {τ} (h : W P cf it mu m c s Q .mk) (hq : ∀ e s, Q e s → Q' e s) : W P cf it mu m c s Q' τ := by
  obtain ⟨q, h1, h2⟩ := h
  exact ⟨q, h1, hq _ _ h2⟩

/-- The ways through a part meet again behind it. -/
theorem W_cut {cf : CF} {it : It} {mu : List Nat} {m : Cfg} {c : Code} {s : St} {k : St → Prop} {Q' : EX → St → Prop} {τ} (R : St → Prop) (h : W P cf it mu m c s (fun e s => match e with | .norm => R s | e => Q' e s) .mk) (hq : ∀ s, R s → k s) :
    W P cf it mu m c s (thenK k Q') τ := by
  refine W_mono h (fun e s hs => ?_)
  cases e with
  | norm => exact hq s hs
  | exit i => exact hs
  | ret => exact hs
theorem cut_norm {R : St → Prop} {Q' : EX → St → Prop} {s : St} : (match EX.norm with | .norm => R s | e => Q' e s) = R s := rfl

theorem fzA_ms {n id k tot off len z : Nat} {H H' : List MB} {els ys : List AV} (hr : getRow H id = some (k, els, z)) (h1 : els.length = tot) (h2 : off + len ≤ tot)
    (hp : fzL (fzJ n) ((els.drop off).take len) (mark H id (off + len)) = some (ys, H')) :
    fzA (fzJ (n + 1)) (.ms id k tot off len) H = some (.sl false ys, H') := by
  simp only [fzA, hr, h1, h2, and_self, if_true, fzJ, hp]
theorem fzA_agg {j : List AV → List MB → Option (List AV × List MB)} {xs : List AV} {H : List MB} : fzA j (.agg xs) H = match fzL j xs H with
    | some (ys, H') => some (.agg ys, H')
    | none => none := rfl
theorem fzA_sl {j : List AV → List MB → Option (List AV × List MB)} {t : Bool} {xs : List AV} {H : List MB} : fzA j (.sl t xs) H = match fzL j xs H with
    | some (ys, H') => some (.sl false ys, H')
    | none => none := rfl
theorem fzA_int {j : List AV → List MB → Option (List AV × List MB)} {k : IntKind} {n : Int} {H : List MB} : fzA j (.int k n) H = some (.int k n, H) := rfl
theorem fzA_bool {j : List AV → List MB → Option (List AV × List MB)} {b : Bool} {H : List MB} : fzA j (.bool b) H = some (.bool b, H) := rfl
theorem fzL_map {α : Type} {j : List AV → List MB → Option (List AV × List MB)} {f g : α → AV} (h : ∀ a H, fzA j (f a) H = some (g a, H)) (H : List MB) : ∀ l : List α, fzL j (l.map f) H = some (l.map g, H)
  | [] => rfl
  | a :: l => by simp only [List.map_cons, fzL, h, fzL_map h H l]

end Go.Ev
