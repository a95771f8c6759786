/- Single operations: arithmetic, comparisons, composites by value. -/
import Derived.Test.YtpbobopcmhpbbaaEvOps1
set_option linter.unusedVariables false
set_option linter.unusedSimpArgs false
namespace Go.Ev
open Go.RowKit

variable {P : Program} {B0 : Nat} {w0 : Base} {w : World} {I : Imm} {H : List MB} {L : List Lay}

theorem evBin_sound {op : BinOp} {k : IntKind} {a b : Int} {r : AV} (h : evBin op k a b = some r) (T : TypeId) (w : World) (h1 : op ≠ .shl) (h2 : op ≠ .shr) :
    ∃ u, (binOp op T (.int k a) (.int k b)).run P w = .ok u w ∧ Rep I L r u := by
  cases op <;> simp only [evBin] at h
  case add => simp at h; subst h; exact ⟨_, by rw [binOp_add]; rfl, .int _ _⟩
  case sub => simp at h; subst h; exact ⟨_, by rw [binOp_sub]; rfl, .int _ _⟩
  case mul => simp at h; subst h; exact ⟨_, by rw [binOp_mul]; rfl, .int _ _⟩
  case quo =>
    split at h
    · simp at h
    · rename_i hb
      simp at h; subst h
      exact ⟨_, by rw [binOp_quo]; simp only [Op.intDiv, if_neg hb]; rfl, .int _ _⟩
  case rem =>
    split at h
    · simp at h
    · rename_i hb
      simp at h; subst h
      exact ⟨_, by rw [binOp_rem]; simp only [Op.intDiv, if_neg hb]; rfl, .int _ _⟩
  case and => simp only [Option.some.injEq] at h; subst h; exact ⟨_, by rw [binOp_and]; rfl, .int _ _⟩
  case or => simp only [Option.some.injEq] at h; subst h; exact ⟨_, by rw [binOp_or]; rfl, .int _ _⟩
  case xor => simp only [Option.some.injEq] at h; subst h; exact ⟨_, by rw [binOp_xor]; rfl, .int _ _⟩
  case andNot => simp only [Option.some.injEq] at h; subst h; exact ⟨_, by rw [binOp_andNot]; rfl, .int _ _⟩
  case shl => exact absurd rfl h1
  case shr => exact absurd rfl h2
  case eql => simp only [Option.some.injEq] at h; subst h; exact ⟨_, by rw [binOp_eql]; rfl, .bool _⟩
  case neq => simp only [Option.some.injEq] at h; subst h; exact ⟨_, by rw [binOp_neq]; rfl, .bool _⟩
  case lss => simp only [Option.some.injEq] at h; subst h; exact ⟨_, by rw [binOp_lss]; rfl, .bool _⟩
  case leq => simp only [Option.some.injEq] at h; subst h; exact ⟨_, by rw [binOp_leq]; rfl, .bool _⟩
  case gtr => simp only [Option.some.injEq] at h; subst h; exact ⟨_, by rw [binOp_gtr]; rfl, .bool _⟩
  case geq => simp only [Option.some.injEq] at h; subst h; exact ⟨_, by rw [binOp_geq]; rfl, .bool _⟩

theorem evShift_sound {op : BinOp} {k k' : IntKind} {a b : Int} {r : AV} (h : evShift op k a b = some r) (w : World) :
    ∃ u, (Op.shift op k a k' b).run P w = .ok u w ∧ Rep I L r u := by
  unfold evShift at h
  split at h
  · simp at h
  · rename_i hb
    unfold Op.shift
    rw [if_neg hb]
    cases op <;> simp only [Option.some.injEq, reduceCtorEq] at h
    case shl => subst h; exact ⟨_, rfl, .int _ _⟩
    case shr => subst h; exact ⟨_, rfl, .int _ _⟩

theorem evStrOp_sound {op : BinOp} {a b : ByteArray} {r : AV} (h : evStrOp op a b = some r) (w : World) :
    ∃ u, (Op.stringOp op a b).run P w = .ok u w ∧ Rep I L r u := by
  cases op <;> simp only [evStrOp, Option.some.injEq, reduceCtorEq] at h
  case add =>
    split at h
    · rename_i hle
      simp at h; subst h
      refine ⟨_, ?_, .str _⟩
      unfold Op.stringOp
      simp only []
      rw [if_neg (by
        have : IntKind.i64.max = 9223372036854775807 := by decide
        rw [this]; omega)]
      rfl
    · simp at h
  all_goals (subst h; exact ⟨_, rfl, .bool _⟩)

theorem eqFields_sound (d : Nat) (xs ys : Array Value) : ∀ (fs : List Field) (i : Nat) (l : List Bool) (as bs : List AV) (b : Bool),
    flatFields P i fs = some l → eqCells l as bs = some b →
    (∀ j a, as[j]? = some a → xs[i + j]? ≠ none ∧ Rep I L a (xs.getD (i + j) undef)) → (∀ j a, bs[j]? = some a → ys[i + j]? ≠ none ∧ Rep I L a (ys.getD (i + j) undef)) →
    ∀ w, (Op.eqFields (d + 1) xs ys fs).run P w = .ok b w
  | [], i, l, as, bs, b, hf, he, _, _, w => by
    simp [flatFields] at hf; subst hf
    cases as with
    | cons a as => simp [eqCells] at he
    | nil =>
      cases bs with
      | nil => simp [eqCells] at he; subst he; rfl
      | cons c bs => simp [eqCells] at he
  | f :: fs, i, l, as, bs, b, hf, he, ha, hb, w => by
    simp only [flatFields] at hf
    split at hf
    · rename_i hfo
      obtain ⟨f1, f2⟩ := hfo
      have hpart : ∀ (hagg : tyAgg P f.type = some false) (zs : Array Value) (v : Value), zs[i]? = some v → ∀ w, (part f.type zs f.offset).run P w = .ok v w := by
        intro hagg zs v hz w
        unfold part
        simp only [Sem.run_bind, tyAgg_run hagg, Result.andThen_ok, Sem.run_ite, f1, hz]
        rfl
      have hget : ∀ (zs : Array Value), zs[i]? ≠ none → zs[i]? = some (zs.getD i undef) := by
        intro zs hz
        cases hh : zs[i]? with
        | none => exact absurd hh hz
        | some v => simp [Array.getD_eq_getD_getElem?, hh]
      have shift : ∀ (zs : Array Value) (c : AV) (cs : List AV), (∀ j a, (c :: cs)[j]? = some a → zs[i + j]? ≠ none ∧ Rep I L a (zs.getD (i + j) undef)) →
          ∀ j a, cs[j]? = some a → zs[i + 1 + j]? ≠ none ∧ Rep I L a (zs.getD (i + 1 + j) undef) := by
        intro zs c cs h j z hz
        have := h (j + 1) z (by simpa using hz)
        rwa [show i + (j + 1) = i + 1 + j by omega] at this
      split at hf
      · rename_i k l' hu hl
        simp at hf; subst hf
        have hagg : tyAgg P f.type = some false := by simp [tyAgg, hu]
        cases as with
        | nil => simp [eqCells] at he
        | cons a as =>
            cases bs with
            | nil => cases a <;> simp [eqCells] at he
            | cons c bs =>
              cases a <;> cases c <;> simp only [eqCells, reduceCtorEq] at he
              case int.int k1 n k2 n' =>
                split at he
                · rename_i hk
                  subst hk
                  cases hq : eqCells l' as bs with
                  | none => rw [hq] at he; simp at he
                  | some b' =>
                    rw [hq] at he; simp at he; subst he
                    have h1 : xs[i]? ≠ none ∧ Rep I L (.int k1 n) (xs.getD i undef) := ha 0 _ rfl
                    have h2 : ys[i]? ≠ none ∧ Rep I L (.int k1 n') (ys.getD i undef) := hb 0 _ rfl
                    simp only [Op.eqFields, if_pos f2, Sem.run_bind, hpart hagg xs _ (hget xs h1.1), hpart hagg ys _ (hget ys h2.1), Result.andThen_ok]
                    have g1 := h1.2
                    have g2 := h2.2
                    generalize xs.getD i undef = va at *
                    generalize ys.getD i undef = vb at *
                    cases g1; cases g2
                    rw [run_equalIn_int w d f.type k1 k n n' hu]
                    simp only [Result.andThen_ok, Sem.run_ite]
                    by_cases hn : n = n'
                    · subst hn
                      simp [eqFields_sound d xs ys fs (i + 1) l' as bs b' hl hq (shift xs _ as ha) (shift ys _ bs hb) w]
                    · have : (n == n') = false := by simp [hn]
                      simp [this]
                · simp at he
      · rename_i l' hu hl
        simp at hf; subst hf
        have hagg : tyAgg P f.type = some false := by simp [tyAgg, hu]
        cases as with
        | nil => simp [eqCells] at he
        | cons a as =>
            cases bs with
            | nil => cases a <;> simp [eqCells] at he
            | cons c bs =>
              cases a <;> cases c <;> simp only [eqCells, reduceCtorEq] at he
              case bool.bool n n' =>
                cases hq : eqCells l' as bs with
                | none => rw [hq] at he; simp at he
                | some b' =>
                  rw [hq] at he; simp at he; subst he
                  have h1 : xs[i]? ≠ none ∧ Rep I L (.bool n) (xs.getD i undef) := ha 0 _ rfl
                  have h2 : ys[i]? ≠ none ∧ Rep I L (.bool n') (ys.getD i undef) := hb 0 _ rfl
                  simp only [Op.eqFields, if_pos f2, Sem.run_bind, hpart hagg xs _ (hget xs h1.1), hpart hagg ys _ (hget ys h2.1), Result.andThen_ok]
                  have g1 := h1.2
                  have g2 := h2.2
                  generalize xs.getD i undef = va at *
                  generalize ys.getD i undef = vb at *
                  cases g1; cases g2
                  rw [run_equalIn_bool' w d f.type n n' hu]
                  simp only [Result.andThen_ok, Sem.run_ite]
                  by_cases hn : n = n'
                  · subst hn
                    simp [eqFields_sound d xs ys fs (i + 1) l' as bs b' hl hq (shift xs _ as ha) (shift ys _ bs hb) w]
                  · have : (n == n') = false := by simp [hn]
                    simp [this]
      · simp at hf
    · simp at hf

/-- What `==` and `!=` come to. -/
def EqRun (P : Program) (T : TypeId) (ox oy : Operand) (a b : Value) (r : Bool) (w : World) : Prop :=
  (do eqGuard .eql T ox oy a b; binOp .eql T a b : Sem Value).run P w = .ok (.bool r) w ∧ (do eqGuard .neq T ox oy a b; binOp .neq T a b : Sem Value).run P w = .ok (.bool (!r)) w

theorem EqRun.of {T : TypeId} {ox oy : Operand} {a b : Value} {r : Bool} {w : World} (h1 : eqGuard .eql T ox oy a b = pure ()) (h2 : eqGuard .neq T ox oy a b = pure ())
    (h3 : binOp .eql T a b = (do pure (.bool (← Op.equal T a b)))) (h4 : binOp .neq T a b = (do pure (.bool (!(← Op.equal T a b))))) (h5 : (Op.equal T a b).run P w = .ok r w) :
    EqRun P T ox oy a b r w := by
  constructor
  · rw [h1, h3]; simp only [Sem.run_bind, Sem.run_pure, Result.andThen_ok, h5]
  · rw [h2, h4]; simp only [Sem.run_bind, Sem.run_pure, Result.andThen_ok, h5]

theorem equalIn_ptr (d : Nat) {T e : TypeId} (hu : P.underlying T = some (.pointer e)) (w : World) :
    (Op.equalIn (d + 1) T (.pointer none) (.pointer none)).run P w = .ok true w ∧
    (∀ a, (Op.equalIn (d + 1) T (.pointer none) (.pointer (some a))).run P w = .ok false w) ∧ (∀ a, (Op.equalIn (d + 1) T (.pointer (some a)) (.pointer none)).run P w = .ok false w) := by
  refine ⟨?_, fun a => ?_, fun a => ?_⟩ <;> simp [Op.equalIn, run_underlying hu]

theorem equalIn_fn (d : Nat) {T : TypeId} {p q : Array TypeId} {v : Bool} (hu : P.underlying T = some (.func p q v)) (w : World) :
    (Op.equalIn (d + 1) T .nilFunc .nilFunc).run P w = .ok true w ∧
    (∀ f x y, (Op.equalIn (d + 1) T .nilFunc (.func f x y)).run P w = .ok false w) ∧ (∀ f x y, (Op.equalIn (d + 1) T (.func f x y) .nilFunc).run P w = .ok false w) := by
  refine ⟨?_, fun f x y => ?_, fun f x y => ?_⟩ <;> simp [Op.equalIn, run_underlying hu]

theorem evEq_sound {T : TypeId} {x y : AV} {a b : Value} (hx : Rep I L x a) (hy : Rep I L y b) {r : Bool} (h : evEq P T x y = some r) (ox oy : Operand) (w : World) :
    EqRun P T ox oy a b r w := by
  unfold evEq at h
  split at h
  · rename_i n n'
    split at h
    · rename_i hu
      cases hx; cases hy
      simp at h; subst h
      exact .of rfl rfl rfl rfl (run_equalIn_bool' w 9999 T n n' hu)
    · simp at h
  · rename_i xs ys
    cases hx with
    | agg _ ws hn hs hR =>
      cases hy with
      | agg _ ws' hn' hs' hR' =>
        split at h
        · rename_i l hl
          unfold flatKinds at hl
          split at hl
          · rename_i fs hu
            split at hl
            · rename_i hst
              obtain ⟨s1, s2⟩ := hst
              have hu' : P.underlying T = some (.struct (P.fieldsOf T)) := by simp [Program.fieldsOf, hu]
              have hfs : P.fieldsOf T = fs := by simp [Program.fieldsOf, hu]
              have key : (Op.equalIn 10000 T (.agg ws) (.agg ws')).run P w = .ok r w := by
                rw [run_equalIn_struct w 9999 T ws ws' hu' s1, hfs]
                refine eqFields_sound (I := I) (L := L) 9998 ws ws' fs.toList 0 l xs ys r hl h (fun j c hj => ?_) (fun j c hj => ?_) w
                · have hlt : j < ws.size := by rw [hn]; exact (List.getElem?_eq_some_iff.1 hj).1
                  exact ⟨by simp [hlt], by simpa using hR j c hj⟩
                · have hlt : j < ws'.size := by rw [hn']; exact (List.getElem?_eq_some_iff.1 hj).1
                  exact ⟨by simp [hlt], by simpa using hR' j c hj⟩
              constructor
              · simp only [Sem.run_bind, run_eqGuard_agg w _ T ox oy ws ws' s2, Result.andThen_ok, run_eql_struct, key]
              · simp only [Sem.run_bind, run_eqGuard_agg w _ T ox oy ws ws' s2, Result.andThen_ok, run_neq_struct, key]
            · simp at hl
          · simp at hl
        · simp at h
  · split at h
    · rename_i hu
      simp at h; subst h
      cases hx; cases hy
      exact .of rfl rfl rfl rfl (equalIn_ptr 9999 hu w).1
    · simp at h
  · split at h
    · rename_i hu
      simp at h; subst h
      cases hx; cases hy
      exact .of rfl rfl rfl rfl ((equalIn_ptr 9999 hu w).2.1 _)
    · simp at h
  · split at h
    · rename_i hu
      simp at h; subst h
      cases hx; cases hy
      exact .of rfl rfl rfl rfl ((equalIn_ptr 9999 hu w).2.1 _)
    · simp at h
  · split at h
    · rename_i hu
      simp at h; subst h
      cases hx; cases hy
      exact .of rfl rfl rfl rfl ((equalIn_ptr 9999 hu w).2.2 _)
    · simp at h
  · split at h
    · rename_i hu
      simp at h; subst h
      cases hx; cases hy
      exact .of rfl rfl rfl rfl ((equalIn_ptr 9999 hu w).2.2 _)
    · simp at h
  · split at h
    · rename_i hu
      simp at h; subst h
      cases hx; cases hy
      exact .of rfl rfl rfl rfl (equalIn_fn 9999 hu w).1
    · simp at h
  · split at h
    · rename_i hu
      simp at h; subst h
      cases hx; cases hy
      exact .of rfl rfl rfl rfl ((equalIn_fn 9999 hu w).2.1 _ _ _)
    · simp at h
  · split at h
    · rename_i hu
      simp at h; subst h
      cases hx; cases hy
      exact .of rfl rfl rfl rfl ((equalIn_fn 9999 hu w).2.2 _ _ _)
    · simp at h
  · simp at h

theorem binOp_sound {op : BinOp} {T : TypeId} {x y : AV} {a b : Value} (hx : Rep I L x a) (hy : Rep I L y b) {r : AV} (h : evBinOp P op T x y = some r) (ox oy : Operand) (w : World) :
    ∃ u, (do eqGuard op T ox oy a b; binOp op T a b : Sem Value).run P w = .ok u w ∧ Rep I L r u := by
  unfold evBinOp at h
  split at h
  · rename_i k n k' n'
    cases hx; cases hy
    simp only [eqGuard_at_int, Sem.run_bind, Sem.run_pure, Result.andThen_ok]
    split at h
    · obtain ⟨u, e1, e2⟩ := evShift_sound (P := P) (I := I) (L := L) (k' := k') h w
      exact ⟨u, by rw [binOp_shl]; exact e1, e2⟩
    · obtain ⟨u, e1, e2⟩ := evShift_sound (P := P) (I := I) (L := L) (k' := k') h w
      exact ⟨u, by rw [binOp_shr]; exact e1, e2⟩
    · rename_i h1 h2
      split at h
      · rename_i hk
        subst hk
        exact evBin_sound h T w h1 h2
      · simp at h
  · rename_i s s'
    cases hx; cases hy
    obtain ⟨u, e1, e2⟩ := evStrOp_sound (P := P) (I := I) (L := L) h w
    refine ⟨u, ?_, e2⟩
    simp only [eqGuard_at_string, Sem.run_bind, Sem.run_pure, Result.andThen_ok]
    rw [← e1]
    cases op <;> rfl
  · split at h
    · cases he : evEq P T x y with
      | none => rw [he] at h; simp at h
      | some q =>
        rw [he] at h; simp at h; subst h
        exact ⟨.bool q, (evEq_sound hx hy he ox oy w).1, .bool _⟩
    · cases he : evEq P T x y with
      | none => rw [he] at h; simp at h
      | some q =>
        rw [he] at h; simp at h; subst h
        exact ⟨.bool (!q), (evEq_sound hx hy he ox oy w).2, .bool _⟩
    · simp at h

end Go.Ev
