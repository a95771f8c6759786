/- One operation, whichever it is, in a function's frame. -/
import Derived.Test.YtpbobopcmhpbbaaEvOps7
set_option linter.unusedVariables false
set_option linter.unusedSimpArgs false
namespace Go.Ev
open Go.RowKit

variable {P : Program} {B0 : Nat} {w0 : Base} {w : World} {I : Imm} {H : List MB} {L : List Lay}

def RepL (I : Imm) (L : List Lay) (xs : List AV) (vs : Array Value) : Prop := vs.size = xs.length ∧ ∀ i y, xs[i]? = some y → Rep I L y (vs.getD i undef)

theorem RepL.mono {I' : Imm} {L' : List Lay} (hx : Ext I L I' L') {xs : List AV} {vs : Array Value} (h : RepL I L xs vs) : RepL I' L' xs vs := ⟨h.1, fun i y hi => (h.2 i y hi).mono hx⟩

/-- What a call comes to, whatever the memory. -/
def CallSound (P : Program) (f : Nat) (args : List AV) (H : List MB) (r : AV) (H' : List MB) : Prop :=
  (∀ (vs : Array Value) (w : World), (callFunc f vs).run P w = .ok (.enter f vs) w) ∧
  ∀ (B0 : Nat) (w0 : Base) (w : World) (I : Imm) (L : List Lay) (vs : Array Value), Inv B0 w0 I H L w → RepL I L args vs →
    Calls P f vs w (fun e w' => ∃ v I' L', e = .returned v ∧ Inv B0 w0 I' H' L' w' ∧ Ext I L I' L' ∧ Rep I' L' r v)

def CfOk (P : Program) (cf : CF) : Prop := ∀ f args H r H', cf f args H = some (r, H') → CallSound P f args H r H'

/-- What an operation has yielded. -/
def nextVal : Next → Option Value
  | .value v => some v
  | .skip => some undef
  | _ => none

def isFnCall (o : Oper) : Bool :=
  match o.op with
  | .call c => match c.callee with
    | .builtin _ => false
    | _ => true
  | _ => false

theorem len_sound {T ty : TypeId} {x : AV} {v : Value} (hx : Rep I L x v) {r : AV} (h : evLen P T x = some r) (w : World) :
    ∃ u, (Builtin.len_ #[T] ty #[v]).run P w = .ok u w ∧ Rep I L r u := by
  unfold evLen at h
  split at h
  · rename_i e hu
    split at h
    · rename_i t xs
      simp at h; subst h
      generalize hq2 : AV.sl t xs = q at hx
      cases hx with
      | nilsl t' => simp at hq2; obtain ⟨_, rfl⟩ := hq2; exact ⟨goInt (0 : Nat), by simp [Builtin.len_, run_underlying hu], .int _ _⟩
      | sl t' xs' b o c k f hc ht hk hI hR =>
        simp at hq2; obtain ⟨_, rfl⟩ := hq2
        exact ⟨goInt xs.length, by simp [Builtin.len_, run_underlying hu], .int _ _⟩
      | _ => cases hq2
    · rename_i id k tot off len
      simp at h; subst h
      cases hx with
      | ms _ _ _ _ _ l b o c hL ht hk2 hl2 hlc hv => exact ⟨goInt len, by simp [Builtin.len_, run_underlying hu], .int _ _⟩
    · simp at h
  · rename_i hu
    split at h
    · rename_i s
      simp at h; subst h
      cases hx
      exact ⟨goInt s.size, by simp [Builtin.len_, run_underlying hu], .int _ _⟩
    · simp at h
  · rename_i n e hu
    simp at h; subst h
    exact ⟨goInt n, by simp [Builtin.len_, run_underlying hu], .int _ _⟩
  · rename_i a hu
    split at h
    · rename_i n e hu2
      simp at h; subst h
      exact ⟨goInt n, by simp [Builtin.len_, run_underlying hu, run_underlying hu2], .int _ _⟩
    · simp at h
  · simp at h

theorem builtin_sound (hi : Inv B0 w0 I H L w) {ρ : Operand → AV} {ρc : Operand → Value} (hρ : ∀ x, Rep I L (ρ x) (ρc x)) {b : Builtin} {ts : Array TypeId} {ty : TypeId} {cs : Array Bool} {args : Array Operand} {r : AV} {H' : List MB}
    (h : evBuiltin P b ts.toList (args.toList.map ρ) H = some (r, H')) :
    ∃ u w' I' L', (builtin b ts ty cs (args.map ρc)).run P w = .ok (.value u) w' ∧ Inv B0 w0 I' H' L' w' ∧ Ext I L I' L' ∧ Rep I' L' r u := by
  obtain ⟨ts⟩ := ts
  obtain ⟨args⟩ := args
  unfold evBuiltin at h
  simp only [] at h
  match args with
  | [] => simp at h
  | [o] =>
    simp only [List.map_cons, List.map_nil] at h
    split at h
    · rename_i T
      cases he : evLen P T (ρ o) with
      | none => rw [he] at h; simp at h
      | some q =>
        rw [he] at h; simp at h; obtain ⟨rfl, rfl⟩ := h
        obtain ⟨u, e1, e2⟩ := len_sound (ty := ty) (hρ o) he w
        refine ⟨u, w, I, L, ?_, hi, .refl I L, e2⟩
        rw [show (⟨[o]⟩ : Array Operand).map ρc = #[ρc o] by simp]
        show (do pure (.value (← Builtin.len_ #[T] ty #[ρc o])) : Sem Next).run P w = _
        simp only [Sem.run_bind, e1, Result.andThen_ok, Sem.run_pure]
    · simp at h
  | [o, o'] =>
    simp only [List.map_cons, List.map_nil] at h
    split at h
    · split at h
      · rename_i sT xT
        obtain ⟨u, w', I', L', e1, e2, e3, e4⟩ := append_sound (ty := ty) hi (hρ o) (hρ o') h
        refine ⟨u, w', I', L', ?_, e2, e3, e4⟩
        rw [show (⟨[o, o']⟩ : Array Operand).map ρc = #[ρc o, ρc o'] by simp]
        show (do pure (.value (← Builtin.append_ #[sT, xT] ty #[ρc o, ρc o'])) : Sem Next).run P w = _
        simp only [Sem.run_bind, e1, Result.andThen_ok, Sem.run_pure]
      · simp at h
    · have hx := hρ o
      have hy := hρ o'
      have run2 : ∀ (x y : Value), (builtin .min ⟨ts⟩ ty cs #[x, y]).run P w = ((Builtin.min2 x y).run P w).andThen fun v w => .ok (.value v) w := by
        intro x y
        show (do pure (.value (← Builtin.min_ ⟨ts⟩ ty #[x, y])) : Sem Next).run P w = _
        simp only [Builtin.min_, List.foldlM_cons, List.foldlM_nil, bind_pure, Sem.run_bind, Sem.run_pure]
      unfold evMin at h
      generalize ρ o = a at *
      generalize ρ o' = b at *
      cases a <;> cases b <;> simp only [Option.map_none, reduceCtorEq, Option.map_some, Option.some.injEq, Prod.mk.injEq] at h
      obtain ⟨rfl, rfl⟩ := h
      have e1 := run2 (ρc o) (ρc o')
      rw [show (⟨[o, o']⟩ : Array Operand).map ρc = #[ρc o, ρc o'] by simp]
      generalize ρc o = va at *
      generalize ρc o' = vb at *
      cases hx; cases hy
      exact ⟨_, w, I, L, e1, hi, .refl I L, .int _ _⟩
    · have hx := hρ o
      have hy := hρ o'
      have run2 : ∀ (x y : Value), (builtin .max ⟨ts⟩ ty cs #[x, y]).run P w = ((Builtin.max2 x y).run P w).andThen fun v w => .ok (.value v) w := by
        intro x y
        show (do pure (.value (← Builtin.max_ ⟨ts⟩ ty #[x, y])) : Sem Next).run P w = _
        simp only [Builtin.max_, List.foldlM_cons, List.foldlM_nil, bind_pure, Sem.run_bind, Sem.run_pure]
      unfold evMax at h
      generalize ρ o = a at *
      generalize ρ o' = b at *
      cases a <;> cases b <;> simp only [Option.map_none, reduceCtorEq, Option.map_some, Option.some.injEq, Prod.mk.injEq] at h
      obtain ⟨rfl, rfl⟩ := h
      have e1 := run2 (ρc o) (ρc o')
      rw [show (⟨[o, o']⟩ : Array Operand).map ρc = #[ρc o, ρc o'] by simp]
      generalize ρc o = va at *
      generalize ρc o' = vb at *
      cases hx; cases hy
      exact ⟨_, w, I, L, e1, hi, .refl I L, .int _ _⟩
    · simp at h
  | _ :: _ :: _ :: _ => simp at h

/-- Every operation but a call of a function. -/
theorem evOp_sound (hi : Inv B0 w0 I H L w) {cf : CF} {mu : List Nat} {ρ : Operand → AV} {ρc : Operand → Value} (hρ : ∀ x, Rep I L (ρ x) (ρc x)) {o : Oper} (hn : isFnCall o = false) {r : AV} {H' : List MB}
    (h : evOp P cf mu ρ H o = some (r, H')) :
    ∃ n u w' I' L', (execOp ρc o).run P w = .ok n w' ∧ nextVal n = some u ∧ Inv B0 w0 I' H' L' w' ∧ Ext I L I' L' ∧ Rep I' L' r u := by
  obtain ⟨dst, op, type, pos, after, guard⟩ := o
  have ofV : ∀ (s : Sem Value) (u : Value) (w' : World), s.run P w = .ok u w' → (do pure (.value (← s)) : Sem Next).run P w = .ok (.value u) w' := by
    intro s u w' hs
    simp only [Sem.run_bind, hs, Result.andThen_ok, Sem.run_pure]
  have pureOp : ∀ (q : Option AV) (s : Sem Value), q.map (fun v => (v, H)) = some (r, H') → (∀ v, q = some v → ∃ u, s.run P w = .ok u w ∧ Rep I L v u) →
      ∃ n u w' I' L', (do pure (.value (← s)) : Sem Next).run P w = .ok n w' ∧ nextVal n = some u ∧ Inv B0 w0 I' H' L' w' ∧ Ext I L I' L' ∧ Rep I' L' r u := by
    intro q s hq hs
    cases hqq : q with
    | none => rw [hqq] at hq; simp at hq
    | some v =>
      rw [hqq] at hq; simp at hq; obtain ⟨rfl, rfl⟩ := hq
      obtain ⟨u, e1, e2⟩ := hs v hqq
      exact ⟨_, u, w, I, L, ofV s u w e1, rfl, hi, .refl I L, e2⟩
  cases op <;> simp only [evOp] at h
  case move x =>
    simp at h; obtain ⟨rfl, rfl⟩ := h
    exact ⟨_, _, w, I, L, rfl, rfl, hi, .refl I L, hρ x⟩
  case assign x =>
    simp at h; obtain ⟨rfl, rfl⟩ := h
    exact ⟨_, _, w, I, L, rfl, rfl, hi, .refl I L, hρ x⟩
  case pick c a b =>
    split at h
    · rename_i t hc
      simp at h; obtain ⟨rfl, rfl⟩ := h
      have hcr := hρ c
      rw [hc] at hcr
      generalize hvc : ρc c = vc at hcr
      cases hcr
      refine ⟨.value (if t then ρc a else ρc b), if t then ρc a else ρc b, w, I, L, ?_, rfl, hi, .refl I L, ?_⟩
      · simp only [execOp, hvc, asBool, Sem.run_bind, Sem.run_pure, Result.andThen_ok]
      · cases t
        · exact hρ b
        · exact hρ a
    · simp at h
  case alloc e =>
    split at h
    · rename_i z hz
      split at h
      · rename_i hok
        simp at h; obtain ⟨rfl, rfl⟩ := h
        obtain ⟨u, w', L', e1, e2, e3, e4⟩ := alloc_sound hi hz hok
        exact ⟨_, u, w', I, L', ofV _ u w' e1, rfl, e2, e3, e4⟩
      · simp at h
    · simp at h
  case box e x =>
    split at h
    · rename_i hok
      simp at h; obtain ⟨rfl, rfl⟩ := h
      obtain ⟨u, w', L', e1, e2, e3, e4⟩ := newVar_sound (P := P) hi (hρ x) hok e
      exact ⟨_, u, w', I, L', ofV _ u w' e1, rfl, e2, e3, e4⟩
    · simp at h
  case build t parts =>
    refine pureOp _ _ h (fun v hv => ?_)
    obtain ⟨parts⟩ := parts
    have := build_sound (P := P) hρ hv w
    simpa using this
  case buildSlice t n parts =>
    obtain ⟨parts⟩ := parts
    split at h
    · rename_i es hes
      split at h
      · cases hk : tySzE P t with
        | none => rw [hk] at h; simp at h
        | some k =>
          rw [hk] at h; simp at h; obtain ⟨rfl, rfl⟩ := h
          obtain ⟨u, w', L', e1, e2, e3, e4⟩ := buildSliceMut_sound hi hρ hes hk
          refine ⟨_, u, w', I, L', ofV _ u w' ?_, rfl, e2, e3, e4⟩
          simpa using e1
      · simp at h; obtain ⟨rfl, rfl⟩ := h
        obtain ⟨u, w', I', e1, e2, e3, e4⟩ := buildSlice_sound hi hρ hes
        refine ⟨_, u, w', I', L, ofV _ u w' ?_, rfl, e2, e3, e4⟩
        simpa using e1
    · simp at h
  case load t a =>
    split at h
    · rename_i cs hcs
      exact pureOp _ _ h (fun v hv => load_sound hi (hρ a) hcs hv)
    · simp at h
  case store t a x =>
    cases hq : evStore P H t (ρ a) (ρ x) with
    | none => rw [hq] at h; simp at h
    | some H1 =>
      rw [hq] at h; simp at h; obtain ⟨rfl, rfl⟩ := h
      obtain ⟨w', L', e1, e2, e3⟩ := store_sound hi (hρ a) (hρ x) hq
      refine ⟨.skip, undef, w', I, L', ?_, rfl, e2, e3, .tup [] #[] rfl (fun i y h => by simp at h)⟩
      simp only [execOp, Sem.run_bind, e1, Result.andThen_ok, Sem.run_pure]
  case nilCheck x =>
    have hx := hρ x
    split at h
    · rename_i cs hq
      simp at h; obtain ⟨rfl, rfl⟩ := h
      rw [hq] at hx
      generalize hv : ρc x = v at hx
      cases hx with
      | pt _ b o f hI hR => exact ⟨.value (.pointer (some ⟨b, o, none⟩)), _, w, I, L, by simp only [execOp, hv]; rfl, rfl, hi, .refl I L, .pt cs b o f hI hR⟩
    · rename_i a b c d hq
      simp at h; obtain ⟨rfl, rfl⟩ := h
      rw [hq] at hx
      generalize hv : ρc x = v at hx
      cases hx with
      | rf _ _ _ _ l b' o hL ht hvv => exact ⟨.value (.pointer (some ⟨b', o, none⟩)), _, w, I, L, by simp only [execOp, hv]; rfl, rfl, hi, .refl I L, .rf a b c d l b' o hL ht hvv⟩
    · rename_i f cs hq
      simp at h; obtain ⟨rfl, rfl⟩ := h
      rw [hq] at hx
      generalize hv : ρc x = v at hx
      cases hx with
      | clo _ _ ws hn' hR => exact ⟨.value (.func (.func f) #[] ws), _, w, I, L, by simp only [execOp, hv]; rfl, rfl, hi, .refl I L, .clo f cs ws hn' hR⟩
    · simp at h
  case binOp op t x y yt => exact pureOp _ _ h (fun v hv => binOp_sound (hρ x) (hρ y) hv x y w)
  case unOp op t x => exact pureOp _ _ h (fun v hv => un_sound (hρ x) hv w)
  case convert s d x => exact pureOp _ _ h (fun v hv => convert_sound (hρ x) hv w)
  case makeFunc fn first cap =>
    cases fn <;> simp only [reduceCtorEq] at h
    rename_i f
    split at h
    · rename_i h0
      simp at h; obtain ⟨rfl, rfl⟩ := h
      have e1 : first = #[] := Array.size_eq_zero_iff.1 h0
      subst e1
      refine ⟨.value (.func (.func f) #[] (cap.map ρc)), _, w, I, L, by simp only [execOp, Instr.makeFunc, Sem.run_bind, Sem.run_pure, Result.andThen_ok, Array.map_empty], rfl, hi, .refl I L, .clo f _ _ (by simp) (fun i y hy => ?_)⟩
      simp only [List.getElem?_map, Option.map_eq_some_iff, Array.getElem?_toList] at hy
      obtain ⟨x, g1, g2⟩ := hy
      subst g2
      have : (cap.map ρc).getD i undef = ρc x := by simp [Array.getD_eq_getD_getElem?, g1]
      rw [this]; exact hρ x
    · simp at h
  case makeSlice t l c =>
    obtain ⟨u, w', L', e1, e2, e3, e4⟩ := makeSlice_sound hi (hρ l) (hρ c) h
    exact ⟨_, u, w', I, L', ofV _ u w' e1, rfl, e2, e3, e4⟩
  case slice t x lo hi' mx =>
    split at h
    · simp at h
    · obtain ⟨u, e1, rfl, e3⟩ := slice_sound (w := w) hρ h
      exact ⟨_, u, w, I, L, ofV _ u w e1, rfl, hi, .refl I L, e3⟩
  case fieldAddr t x f => exact pureOp _ _ h (fun v hv => fieldAddr_sound (hρ x) hv)
  case field t x f => exact pureOp _ _ h (fun v hv => field_sound (hρ x) hv)
  case indexAddr t x i => exact pureOp _ _ h (fun v hv => indexAddr_sound (hρ x) (hρ i) hv)
  case index t x i => exact pureOp _ _ h (fun v hv => index_sound (hρ x) (hρ i) hv)
  case extract x i =>
    split at h
    · rename_i vs hq
      have hx := hρ x
      rw [hq] at hx
      exact pureOp _ _ h (fun v hv => extract_sound hx hv)
    · simp at h
  case call c =>
    obtain ⟨callee, args, argTypes⟩ := c
    cases callee with
    | builtin b =>
      simp only at h
      obtain ⟨u, w', I', L', e1, e2, e3, e4⟩ := builtin_sound (ty := type) (cs := args.map fun | .const _ => true | _ => false) hi hρ h
      refine ⟨.value u, u, w', I', L', ?_, rfl, e2, e3, e4⟩
      simp only [execOp, resolve, Sem.run_bind, Sem.run_pure, Result.andThen_ok, invoke]
      exact e1
    | value f => simp [isFnCall] at hn
    | invoke a b => simp [isFnCall] at hn
  all_goals simp at h

end Go.Ev
