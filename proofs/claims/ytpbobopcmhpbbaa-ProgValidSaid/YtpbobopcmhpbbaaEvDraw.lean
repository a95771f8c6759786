/- Statements whose order is open: every order comes to what the order of the text comes to. -/
import Derived.Test.YtpbobopcmhpbbaaEvOne
set_option linter.unusedVariables false
set_option linter.unusedSimpArgs false
namespace Go.Ev
open Go.RowKit

variable {P : Program} {cf : CF} {mu : List Nat} {ops : Array Oper}

mutual
theorem AV.eq_of_beq : ∀ (a b : AV), AV.beq a b = true → a = b
  | .top, b, h => by cases b <;> simp [AV.beq] at h <;> rfl
  | .int k n, b, h => by cases b <;> simp [AV.beq] at h; obtain ⟨rfl, rfl⟩ := h; rfl
  | .bool x, b, h => by cases b <;> simp [AV.beq] at h; subst h; rfl
  | .str s, b, h => by cases b <;> simp [AV.beq] at h; subst h; rfl
  | .nilp, b, h => by cases b <;> simp [AV.beq] at h <;> rfl
  | .nilf, b, h => by cases b <;> simp [AV.beq] at h <;> rfl
  | .nili, b, h => by cases b <;> simp [AV.beq] at h <;> rfl
  | .nilm, b, h => by cases b <;> simp [AV.beq] at h <;> rfl
  | .sl t xs, b, h => by cases b <;> simp [AV.beq] at h; obtain ⟨rfl, h2⟩ := h; rw [AV.eq_of_beqL xs _ h2]
  | .pt xs, b, h => by cases b <;> simp [AV.beq] at h; rw [AV.eq_of_beqL xs _ h]
  | .rf _ _ _ _, b, h => by cases b <;> simp [AV.beq] at h; obtain ⟨rfl, rfl, rfl, rfl⟩ := h; rfl
  | .ms _ _ _ _ _, b, h => by cases b <;> simp [AV.beq] at h; obtain ⟨rfl, rfl, rfl, rfl, rfl⟩ := h; rfl
  | .mpr _, b, h => by cases b <;> simp [AV.beq] at h; subst h; rfl
  | .clo _ xs, b, h => by cases b <;> simp [AV.beq] at h; obtain ⟨rfl, h2⟩ := h; rw [AV.eq_of_beqL xs _ h2]
  | .agg xs, b, h => by cases b <;> simp [AV.beq] at h; rw [AV.eq_of_beqL xs _ h]
  | .tup xs, b, h => by cases b <;> simp [AV.beq] at h; rw [AV.eq_of_beqL xs _ h]
  | .ifc _ x, b, h => by cases b <;> simp [AV.beq] at h; obtain ⟨rfl, h2⟩ := h; rw [AV.eq_of_beq x _ h2]
theorem AV.eq_of_beqL : ∀ (a b : List AV), AV.beqL a b = true → a = b
  | [], [], _ => rfl
  | [], _ :: _, h => by simp [AV.beqL] at h
  | _ :: _, [], h => by simp [AV.beqL] at h
  | x :: xs, y :: ys, h => by
    simp [AV.beqL] at h
    rw [AV.eq_of_beq x y h.1, AV.eq_of_beqL xs ys h.2]
end

theorem MB.eq_of_beqE : ∀ (a b : List (AV × AV)), MB.beqE a b = true → a = b
  | [], [], _ => rfl
  | [], _ :: _, h => by simp [MB.beqE] at h
  | _ :: _, [], h => by simp [MB.beqE] at h
  | (x, y) :: xs, (x', y') :: ys, h => by
    simp [MB.beqE] at h
    rw [AV.eq_of_beq x x' h.1, AV.eq_of_beq y y' h.2.1, MB.eq_of_beqE xs ys h.2.2]

theorem MB.eq_of_beq (a b : MB) (h : MB.beq a b = true) : a = b := by
  cases a <;> cases b <;> simp [MB.beq] at h
  · obtain ⟨rfl, rfl, h⟩ := h; rw [AV.eq_of_beqL _ _ h]
  · rw [MB.eq_of_beqE _ _ h]

theorem heapEq_eq : ∀ (a b : List MB), heapEq a b = true → a = b
  | [], [], _ => rfl
  | [], _ :: _, h => by simp [heapEq] at h
  | _ :: _, [], h => by simp [heapEq] at h
  | x :: xs, y :: ys, h => by
    simp [heapEq] at h
    rw [MB.eq_of_beq x y h.1, heapEq_eq xs ys h.2]

theorem sameAt_eq {id : Nat} {H H' : List MB} (h : sameAt id H H' = true) : H[id]? = H'[id]? := by
  unfold sameAt at h
  split at h
  · rename_i x y h1 h2
    rw [h1, h2, MB.eq_of_beq _ _ h]
  · rename_i h1 h2; rw [h1, h2]
  · simp at h

/-- An operation looks at nothing but its operands and the heap. -/
theorem evOp_congr {ρ ρ' : Operand → AV} {H : List MB} (o : Oper) (h : ∀ x ∈ o.op.operands, ρ x = ρ' x) : evOp P cf mu ρ H o = evOp P cf mu ρ' H o := by
  obtain ⟨dst, op, type, pos, after, guard⟩ := o
  have pairs : ∀ ps : Array (Nat × Operand), (∀ x ∈ (ps.toList.map (·.2)).toArray, ρ x = ρ' x) → (ps.toList.map fun q => (q.1, ρ q.2)) = (ps.toList.map fun q => (q.1, ρ' q.2)) := by
    intro ps hp
    refine List.map_congr_left fun p hm => ?_
    rw [hp p.2 (by simp; exact ⟨p.1, by simpa using hm⟩)]
  have lst : ∀ xs : Array Operand, (∀ x ∈ xs, ρ x = ρ' x) → xs.toList.map ρ = xs.toList.map ρ' := fun xs hx => List.map_congr_left fun x hm => hx x (by simpa using hm)
  cases op <;> simp only [Op.operands] at h <;> simp only [evOp]
  case move x => rw [h x (by simp)]
  case assign x => rw [h x (by simp)]
  case pick c a b => rw [h c (by simp), h a (by simp), h b (by simp)]
  case box e x => rw [h x (by simp)]
  case build t ps => rw [pairs ps h]
  case buildSlice t n ps => rw [pairs ps h]
  case load t a => rw [h a (by simp)]
  case store t a x => rw [h a (by simp), h x (by simp)]
  case nilCheck x => rw [h x (by simp)]
  case binOp op t x y yt => rw [h x (by simp), h y (by simp)]
  case unOp op t x => rw [h x (by simp)]
  case convert s d x => rw [h x (by simp)]
  case makeFunc fn first cap =>
    cases fn <;> simp only []
    rw [lst cap (fun x hx => h x (by simp [hx]))]
  case makeSlice t l c => rw [h l (by simp), h c (by simp)]
  case slice t x lo hi mx =>
    rw [h x (by simp)]
    have e1 : lo.map ρ = lo.map ρ' := by cases lo with | none => rfl | some y => simp only [Option.map_some]; rw [h y (by simp)]
    have e2 : hi.map ρ = hi.map ρ' := by cases hi with | none => rfl | some y => simp only [Option.map_some]; rw [h y (by simp)]
    have e3 : mx.map ρ = mx.map ρ' := by cases mx with | none => rfl | some y => simp only [Option.map_some]; rw [h y (by simp)]
    rw [e1, e2, e3]
  case fieldAddr t x f => rw [h x (by simp)]
  case field t x f => rw [h x (by simp)]
  case indexAddr t x i => rw [h x (by simp), h i (by simp)]
  case index t x i => rw [h x (by simp), h i (by simp)]
  case extract x i => rw [h x (by simp)]
  case call c =>
    obtain ⟨callee, args, ats⟩ := c
    have ha : args.toList.map ρ = args.toList.map ρ' := lst args (fun x hx => h x (by simp [Call.operands, hx]))
    cases callee with
    | builtin b => simp only []; rw [ha]
    | value f => simp only [evCall]; rw [ha, h f (by simp [Call.operands])]
    | invoke r m => rfl

theorem footprint_congr {ρ ρ' : Operand → AV} {H H' : List MB} (o : Oper) (h : ∀ x ∈ o.op.operands, ρ x = ρ' x) : footprint mu ρ o H H' = footprint mu ρ' o H H' := by
  obtain ⟨dst, op, type, pos, after, guard⟩ := o
  cases op <;> simp only [Op.operands] at h <;> simp only [footprint]
  case load t a => rw [h a (by simp)]

/-- An operation that does not use the heap. -/
theorem nofoot {ρ : Operand → AV} {H H' : List MB} {o : Oper} {v : AV} (h : evOp P cf mu ρ H o = some (v, H')) (hf : footprint mu ρ o H H' = none) : H' = H ∧ ∀ G, evOp P cf mu ρ G o = some (v, G) := by
  obtain ⟨dst, op, type, pos, after, guard⟩ := o
  have pm : ∀ (q : Option AV), q.map (fun v => (v, H)) = some (v, H') → H' = H ∧ ∀ G : List MB, q.map (fun v => (v, G)) = some (v, G) := by
    intro q hq
    cases q with
    | none => simp at hq
    | some u => simp at hq; obtain ⟨rfl, rfl⟩ := hq; exact ⟨rfl, fun G => rfl⟩
  cases op <;> simp only [evOp] at h ⊢ <;> simp only [footprint, reduceCtorEq] at hf
  case move x => simp at h; obtain ⟨rfl, rfl⟩ := h; exact ⟨rfl, fun G => rfl⟩
  case assign x => simp at h; obtain ⟨rfl, rfl⟩ := h; exact ⟨rfl, fun G => rfl⟩
  case pick c a b =>
    split at h
    · rename_i t ht
      simp at h; obtain ⟨rfl, rfl⟩ := h; exact ⟨rfl, fun G => rfl⟩
    · simp at h
  case build t ps => exact pm _ h
  case buildSlice t n ps =>
    split at h
    · rename_i es hes
      split at h
      · rename_i hm; rw [if_pos hm] at hf; simp at hf
      · rename_i hm
        simp at h; obtain ⟨rfl, rfl⟩ := h
        exact ⟨rfl, fun G => by rw [if_neg hm]⟩
    · simp at h
  case load t a =>
    split at h
    · rename_i cs hcs
      split at hf
      · rename_i ds hd
        simp only [hd, cellsAt, Option.some.injEq] at hcs ⊢
        subst hcs
        exact pm _ h
      · simp at hf
      · simp at hf
    · simp at h
  case nilCheck x =>
    split at h
    · simp at h; obtain ⟨rfl, rfl⟩ := h; exact ⟨rfl, fun G => rfl⟩
    · simp at h; obtain ⟨rfl, rfl⟩ := h; exact ⟨rfl, fun G => rfl⟩
    · simp at h; obtain ⟨rfl, rfl⟩ := h; exact ⟨rfl, fun G => rfl⟩
    · simp at h
  case binOp op t x y yt => exact pm _ h
  case unOp op t x => exact pm _ h
  case convert s d x => exact pm _ h
  case makeFunc fn first cap =>
    cases fn <;> simp only [reduceCtorEq] at h ⊢
    split at h
    · rename_i h0
      simp at h; obtain ⟨rfl, rfl⟩ := h; exact ⟨rfl, fun G => by rw [if_pos h0]⟩
    · simp at h
  case slice t x lo hi mx =>
    split at h
    · simp at h
    · rename_i ht
      have key : ∀ (q : AV) (a b c : Option AV), evSlice P H t q a b c = some (v, H') → H' = H ∧ ∀ G, evSlice P G t q a b c = some (v, G) := by
        intro q a b c hq
        unfold evSlice at hq ⊢
        split at hq
        · split at hq
          · rename_i g1
            split at hq
            · rename_i hh g2
              split at hq
              · rename_i ll g3
                simp at hq; obtain ⟨rfl, rfl⟩ := hq
                exact ⟨rfl, fun G => by first | (rw [if_pos g1]; done) | (rw [if_pos g1]; simp only [g2, g3])⟩
              · simp at hq
            · simp at hq
          · simp at hq
        · split at hq
          · rename_i e he
            split at hq
            · rename_i s hs
              split at hq
              · rename_i g1
                split at hq
                · rename_i hh g2
                  split at hq
                  · rename_i ll g3
                    simp at hq; obtain ⟨rfl, rfl⟩ := hq
                    exact ⟨rfl, fun G => by first | (rw [if_pos g1]; done) | (rw [if_pos g1]; simp only [g2, g3])⟩
                  · simp at hq
                · simp at hq
              · simp at hq
            · simp at hq
          · simp at hq
        · split at hq
          · rename_i e he
            split at hq
            · rename_i s hs
              split at hq
              · rename_i g1
                split at hq
                · rename_i hh g2
                  split at hq
                  · rename_i ll g3
                    simp at hq; obtain ⟨rfl, rfl⟩ := hq
                    exact ⟨rfl, fun G => by first | (rw [if_pos g1]; done) | (rw [if_pos g1]; simp only [g2, g3])⟩
                  · simp at hq
                · simp at hq
              · simp at hq
            · simp at hq
          · simp at hq
        · simp at hq
      exact key _ _ _ _ h
  case fieldAddr t x f => exact pm _ h
  case field t x f => exact pm _ h
  case indexAddr t x i => exact pm _ h
  case index t x i => exact pm _ h
  case extract x i =>
    split at h
    · exact pm _ h
    · simp at h
  case call c =>
    obtain ⟨callee, args, ats⟩ := c
    cases callee with
    | value f => simp at hf
    | invoke r m => simp [evCall] at h
    | builtin b =>
      simp only at h hf ⊢
      have key : ∀ (ts : List TypeId) (as : List AV), b = .len ∨ b = .min ∨ b = .max → evBuiltin P b ts as H = some (v, H') → H' = H ∧ ∀ G, evBuiltin P b ts as G = some (v, G) := by
        intro ts as hb hq
        unfold evBuiltin at hq ⊢
        split at hq
        · split at hq
          · exact pm _ hq
          · simp at hq
        · split at hq
          · rcases hb with h | h | h <;> cases h
          · exact pm _ hq
          · exact pm _ hq
          · simp at hq
        · simp at hq
      cases b <;> simp only [reduceCtorEq] at hf <;> exact key _ _ (by simp) h
  all_goals simp at h

/-- An operation that reads one block. -/
theorem rdfoot {ρ : Operand → AV} {H H' : List MB} {o : Oper} {v : AV} {id : Nat} (h : evOp P cf mu ρ H o = some (v, H')) (hf : footprint mu ρ o H H' = some (.rd id)) :
    H' = H ∧ ∀ G, G[id]? = H[id]? → evOp P cf mu ρ G o = some (v, G) := by
  obtain ⟨dst, op, type, pos, after, guard⟩ := o
  cases op <;> simp only [footprint, reduceCtorEq] at hf
  case load t a =>
    simp only [evOp] at h ⊢
    split at h
    · rename_i cs hcs
      split at hf
      · simp at hf
      · rename_i i1 i2 i3 i4 hd
        simp at hf; subst hf
        cases hm : mkVal P t cs with
        | none => rw [hm] at h; simp at h
        | some u =>
          rw [hm] at h; simp at h; obtain ⟨rfl, rfl⟩ := h
          refine ⟨rfl, fun G hG => ?_⟩
          have : cellsAt G (ρ a) = some cs := by
            rw [← hcs, hd]
            simp only [cellsAt, getRow, hG]
          rw [this]
          simp [hm]
      · simp at hf
    · simp at h
  case call c =>
    obtain ⟨callee, args, ats⟩ := c
    cases callee with
    | builtin b => cases b <;> simp at hf
    | value f => simp at hf
    | invoke r m => simp at hf
  case buildSlice t n ps => split at hf <;> simp at hf
  all_goals simp at hf

theorem genfoot {ρ : Operand → AV} {H H' G G' : List MB} {o : Oper} (hf : footprint mu ρ o H H' = some (.gen G G')) : G = H ∧ G' = H' := by
  obtain ⟨dst, op, type, pos, after, guard⟩ := o
  cases op <;> simp only [footprint, reduceCtorEq] at hf
  case load t a => split at hf <;> simp at hf; exact ⟨hf.1.symm, hf.2.symm⟩
  case call c =>
    obtain ⟨callee, args, ats⟩ := c
    cases callee with
    | builtin b => cases b <;> simp at hf <;> exact ⟨hf.1.symm, hf.2.symm⟩
    | value f => simp at hf; exact ⟨hf.1.symm, hf.2.symm⟩
    | invoke r m => simp at hf; exact ⟨hf.1.symm, hf.2.symm⟩
  case buildSlice t n ps => split at hf <;> simp at hf; exact ⟨hf.1.symm, hf.2.symm⟩
  all_goals (simp at hf; exact ⟨hf.1.symm, hf.2.symm⟩)

theorem foot_any {ρ : Operand → AV} {H H' K K' : List MB} {o : Oper} :
    (footprint mu ρ o H H' = none → footprint mu ρ o K K' = none) ∧ (∀ id, footprint mu ρ o H H' = some (.rd id) → footprint mu ρ o K K' = some (.rd id)) ∧
    (∀ G G', footprint mu ρ o H H' = some (.gen G G') → footprint mu ρ o K K' = some (.gen K K')) := by
  obtain ⟨dst, op, type, pos, after, guard⟩ := o
  cases op <;> simp only [footprint]
  case load t a => cases ρ a <;> simp
  case call c =>
    obtain ⟨callee, args, ats⟩ := c
    cases callee with
    | builtin b => cases b <;> simp
    | value f => simp
    | invoke r m => simp
  case buildSlice t n ps => split <;> simp
  all_goals simp

/-- What a wanted operation does with the heap; an operation that is not wanted does nothing. -/
def fpOf (mu : List Nat) (ρ : Operand → AV) (o : Oper) (b : Bool) (H H' : List MB) : Option FP := if b = true then footprint mu ρ o H H' else none

/-- A run of operations by their numbers, with what each does to the heap. -/
inductive Run (P : Program) (cf : CF) (mu : List Nat) (ops : Array Oper) : List (Nat × Option FP) → St → St → Prop where
  | nil (s : St) : Run P cf mu ops [] s s
  | cons {i : Nat} {o : Oper} {b : Bool} {f : Option FP} {s s1 s2 : St} {l : List (Nat × Option FP)} (ho : ops[i]? = some o) (hw : evWanted ops.toList s o = some b)
      (h1 : evOne P cf mu ops.toList o s = some s1) (hf : f = fpOf mu s.ev o b s.h s1.h) (hr : Run P cf mu ops l s1 s2) : Run P cf mu ops ((i, f) :: l) s s2

def apartO : Option FP → Option FP → Bool
  | some p, some q => p.apart q
  | _, _ => true

theorem wanted_put {ops : Array Oper} {o : Oper} {s : St} {d : Option Tmp} {v : AV} {H : List MB} (h : ∀ t, d = some t → t ∉ o.looksAt ops) : evWanted ops.toList (({ s with h := H } : St).put d v) o = evWanted ops.toList s o := by
  unfold evWanted
  cases hg : o.guard with
  | none => rfl
  | some p =>
    obtain ⟨j, wnt⟩ := p
    simp only [Array.getElem?_toList]
    cases hj : ops[j]? with
    | none => rfl
    | some q =>
      cases hd : q.dst with
      | none => simp [hd]
      | some e =>
        simp only [hd]
        cases d with
        | none => rfl
        | some t =>
          have hne : t ≠ e := fun e' => h t rfl (by subst e'; simp [Oper.looksAt, hg, hj, hd])
          have hg : look (({ s with h := H } : St).put (some t) v).t e = look s.t e := by
            show look (if t < s.n then ins t v s.t else s.t) e = _
            split
            · exact look_ins_ne hne _
            · rfl
          rw [hg]

theorem ev_put {o : Oper} {s : St} {d : Option Tmp} {v : AV} {H : List MB} (h : ∀ t, d = some t → t ∉ o.looksAt ops) : ∀ x ∈ o.op.operands, (({ s with h := H } : St).put d v).ev x = s.ev x := by
  intro x hx
  cases d with
  | none => rfl
  | some t =>
    cases x with
    | tmp u =>
      have hne : t ≠ u := fun e => h t rfl (by
        subst e
        exact List.mem_append_left _ (List.mem_filterMap.2 ⟨.tmp t, by simpa using hx, rfl⟩))
      show lookD (({ s with h := H } : St).put (some t) v).t u = lookD s.t u
      show lookD (if t < s.n then ins t v s.t else s.t) u = _
      split
      · unfold lookD; rw [look_ins_ne hne _]
      · rfl
    | _ => rfl

theorem put_comm {s : St} {d e : Option Tmp} (hne : ∀ t, d = some t → e ≠ some t) (v u : AV) (H : List MB) :
    ({ (s.put d v) with h := H } : St).put e u = (({ (s.put e u) with h := H } : St).put d v) := by
  cases d with
  | none => cases e <;> rfl
  | some t =>
    cases e with
    | none => rfl
    | some q =>
      have : t ≠ q := fun h => hne t rfl (by rw [h])
      show ({ n := s.n, t := if q < s.n then ins q u (if t < s.n then ins t v s.t else s.t) else (if t < s.n then ins t v s.t else s.t), h := H } : St) =
        { n := s.n, t := if t < s.n then ins t v (if q < s.n then ins q u s.t else s.t) else (if q < s.n then ins q u s.t else s.t), h := H }
      by_cases a : t < s.n <;> by_cases b : q < s.n <;> simp only [a, b, if_true, if_false]
      rw [ins_comm (Ne.symm this) _]

/-- What one operation does, in parts. -/
theorem evOne_parts {o : Oper} {s s1 : St} (h : evOne P cf mu ops.toList o s = some s1) :
    (evWanted ops.toList s o = some true ∧ ∃ v H, evOp P cf mu s.ev s.h o = some (v, H) ∧ s1 = ({ s with h := H } : St).put o.dst v) ∨
    (evWanted ops.toList s o = some false ∧ s1 = s.put o.dst (.tup [])) := by
  unfold evOne at h
  split at h
  · rename_i hw
    split at h
    · rename_i v H hop
      simp at h
      exact .inl ⟨hw, v, H, hop, h.symm⟩
    · simp at h
  · rename_i hw
    simp at h
    exact .inr ⟨hw, h.symm⟩
  · simp at h

theorem Run.swap {x i : Nat} {fx fi : Option FP} {l : List (Nat × Option FP)} {s s2 : St} (h : Run P cf mu ops ((x, fx) :: (i, fi) :: l) s s2)
    (ha : ∀ p q, ops[x]? = some p → ops[i]? = some q → p.apart ops q = true) (hf : apartO fx fi = true) : Run P cf mu ops ((i, fi) :: (x, fx) :: l) s s2 := by
  cases h with
  | @cons _ ox bx _ _ s1 _ _ hox hwx h1x hfx hr =>
    cases hr with
    | @cons _ oi bi _ _ s3 _ _ hoi hwi h1i hfi hr2 =>
      obtain ⟨a1, a2, a3⟩ := Oper.apart_spec (ha ox oi hox hoi)
      -- what both put
      have key : ∃ (vx vi : AV) (Hx Hi Gi : List MB), s1 = ({ s with h := Hx } : St).put ox.dst vx ∧ s3 = ({ s1 with h := Hi } : St).put oi.dst vi ∧
          evWanted ops.toList s oi = some bi ∧
          (bx = true → evOp P cf mu s.ev s.h ox = some (vx, Hx)) ∧ (bx = false → vx = .tup [] ∧ Hx = s.h) ∧
          (bi = true → evOp P cf mu s.ev Hx oi = some (vi, Hi)) ∧ (bi = false → vi = .tup [] ∧ Hi = Hx) ∧
          fx = fpOf mu s.ev ox bx s.h Hx ∧ fi = fpOf mu s.ev oi bi Hx Hi ∧ Gi = Hi := by
        have hx : ∃ vx Hx, s1 = ({ s with h := Hx } : St).put ox.dst vx ∧ (bx = true → evOp P cf mu s.ev s.h ox = some (vx, Hx)) ∧ (bx = false → vx = .tup [] ∧ Hx = s.h) := by
          rcases evOne_parts h1x with ⟨b1, v, H, b2, b3⟩ | ⟨b1, b2⟩
          · rw [hwx] at b1; obtain rfl := Option.some.inj b1
            exact ⟨v, H, b3, fun _ => b2, fun h => by cases h⟩
          · rw [hwx] at b1; obtain rfl := Option.some.inj b1
            exact ⟨.tup [], s.h, b2, fun h => (by cases h), fun _ => ⟨rfl, rfl⟩⟩
        obtain ⟨vx, Hx, e1, e2, e3⟩ := hx
        have hs1h : s1.h = Hx := by rw [e1, put_h]
        have hwi' : evWanted ops.toList s oi = some bi := by rw [← hwi, e1, wanted_put a1]
        have hev : ∀ y ∈ oi.op.operands, s1.ev y = s.ev y := by rw [e1]; exact ev_put a1
        have hi : ∃ vi Hi, s3 = ({ s1 with h := Hi } : St).put oi.dst vi ∧ (bi = true → evOp P cf mu s.ev Hx oi = some (vi, Hi)) ∧ (bi = false → vi = .tup [] ∧ Hi = Hx) := by
          rcases evOne_parts h1i with ⟨b1, v, H, b2, b3⟩ | ⟨b1, b2⟩
          · rw [hwi] at b1; obtain rfl := Option.some.inj b1
            refine ⟨v, H, b3, fun _ => ?_, fun h => by cases h⟩
            rw [← b2, hs1h]; exact (evOp_congr oi hev).symm
          · rw [hwi] at b1; obtain rfl := Option.some.inj b1
            refine ⟨.tup [], Hx, ?_, fun h => (by cases h), fun _ => ⟨rfl, rfl⟩⟩
            rw [b2]; congr 1
            cases s1; simp at hs1h; rw [hs1h]
        obtain ⟨vi, Hi, g1, g2, g3⟩ := hi
        refine ⟨vx, vi, Hx, Hi, Hi, e1, g1, hwi', e2, e3, g2, g3, by rw [hfx, hs1h], ?_, rfl⟩
        have hs3h : s3.h = Hi := by rw [g1, put_h]
        rw [hfi, hs1h, hs3h]
        unfold fpOf
        rw [footprint_congr oi hev]
      obtain ⟨vx, vi, Hx, Hi, _, e1, e2, hwi', x1, x2, i1, i2, f1, f2, _⟩ := key
      -- the other order
      have other : ∃ H1, (bi = true → evOp P cf mu s.ev s.h oi = some (vi, H1)) ∧ (bi = false → H1 = s.h) ∧ (bx = true → evOp P cf mu s.ev H1 ox = some (vx, Hi)) ∧ (bx = false → H1 = Hi) ∧
          fi = fpOf mu s.ev oi bi s.h H1 ∧ fx = fpOf mu s.ev ox bx H1 Hi := by
        cases bx with
        | false =>
          obtain ⟨_, rfl⟩ := x2 rfl
          exact ⟨Hi, i1, fun h => (i2 h).2, fun h => (by cases h), fun _ => rfl, f2, f1⟩
        | true =>
          have x1 := x1 rfl
          cases bi with
          | false =>
            obtain ⟨_, rfl⟩ := i2 rfl
            exact ⟨s.h, fun h => (by cases h), fun _ => rfl, fun _ => x1, fun h => (by cases h), f2, f1⟩
          | true =>
            have i1 := i1 rfl
            have f1 : fx = footprint mu s.ev ox s.h Hx := f1
            have f2 : fi = footprint mu s.ev oi Hx Hi := f2
            have goal : ∀ H1, evOp P cf mu s.ev s.h oi = some (vi, H1) → evOp P cf mu s.ev H1 ox = some (vx, Hi) → fi = footprint mu s.ev oi s.h H1 → fx = footprint mu s.ev ox H1 Hi →
                ∃ H1, (true = true → evOp P cf mu s.ev s.h oi = some (vi, H1)) ∧ (true = false → H1 = s.h) ∧ (true = true → evOp P cf mu s.ev H1 ox = some (vx, Hi)) ∧ (true = false → H1 = Hi) ∧
                  fi = fpOf mu s.ev oi true s.h H1 ∧ fx = fpOf mu s.ev ox true H1 Hi :=
              fun H1 c1 c2 c3 c4 => ⟨H1, fun _ => c1, fun h => (by cases h), fun _ => c2, fun h => (by cases h), c3, c4⟩
            cases fx with
            | none =>
              obtain ⟨rfl, nx⟩ := nofoot x1 f1.symm
              exact goal Hi i1 (nx Hi) f2 (foot_any.1 f1.symm).symm
            | some px =>
              cases px with
              | rd id =>
                obtain ⟨rfl, nx⟩ := rdfoot x1 f1.symm
                have hsame : Hi[id]? = s.h[id]? := by
                  cases fi with
                  | none => rw [(nofoot i1 f2.symm).1]
                  | some pi =>
                    cases pi with
                    | rd id' => rw [(rdfoot i1 f2.symm).1]
                    | gen G G' =>
                      obtain ⟨rfl, rfl⟩ := genfoot f2.symm
                      exact (sameAt_eq hf).symm
                exact goal Hi i1 (nx Hi hsame) f2 (foot_any.2.1 id f1.symm).symm
              | gen G G' =>
                obtain ⟨p1, p2⟩ := genfoot f1.symm
                cases fi with
                | none =>
                  obtain ⟨q1, ni⟩ := nofoot i1 f2.symm
                  subst q1
                  exact goal s.h (ni s.h) x1 (foot_any.1 f2.symm).symm f1
                | some pi =>
                  cases pi with
                  | rd id =>
                    obtain ⟨q1, ni⟩ := rdfoot i1 f2.symm
                    subst q1
                    have hs : sameAt id G G' = true := hf
                    rw [p1, p2] at hs
                    exact goal s.h (ni s.h (sameAt_eq hs)) x1 (foot_any.2.1 id f2.symm).symm f1
                  | gen K K' =>
                    obtain ⟨p3, p4⟩ := genfoot f2.symm
                    have hq : heapEq G' G = true ∧ heapEq K' K = true := by simpa [apartO, FP.apart] using hf
                    have q1 := heapEq_eq _ _ hq.1
                    have q2 := heapEq_eq _ _ hq.2
                    have q3 : Hx = s.h := by rw [← p2, q1, p1]
                    have q4 : Hi = Hx := by rw [← p4, q2, p3]
                    subst q4
                    rw [q3] at i1 x1 f1 f2
                    refine goal s.h ?_ ?_ ?_ ?_
                    · exact i1
                    · rw [q3]; exact x1
                    · exact f2
                    · rw [q3]; exact f1
      obtain ⟨H1, o1, o2, o3, o4, o5, o6⟩ := other
      have one : ∀ (o : Oper) (t : St) (b : Bool) (v : AV) (H : List MB), evWanted ops.toList t o = some b → (b = true → evOp P cf mu t.ev t.h o = some (v, H)) → (b = false → v = .tup [] ∧ H = t.h) →
          evOne P cf mu ops.toList o t = some (({ t with h := H } : St).put o.dst v) := by
        intro o t b v H h1 h2 h3
        unfold evOne
        rw [h1]
        cases b with
        | true => simp only [h2 rfl]
        | false =>
          obtain ⟨rfl, rfl⟩ := h3 rfl
          rfl
      have e3 := one oi s bi vi H1 hwi' o1 (fun h => ⟨(i2 h).1, o2 h⟩)
      have e4 := one ox (({ s with h := H1 } : St).put oi.dst vi) bx vx Hi (by rw [wanted_put a3]; exact hwx)
        (fun h => by
          rw [put_h, ← o3 h]
          exact evOp_congr ox (ev_put a3))
        (fun h => ⟨(x2 h).1, by rw [put_h]; exact (o4 h).symm⟩)
      have e5 : (({ ((({ s with h := H1 } : St).put oi.dst vi)) with h := Hi } : St).put ox.dst vx) = s3 := by
        rw [e2, e1]
        have c1 : ({ (({ s with h := H1 } : St).put oi.dst vi) with h := Hi } : St) = ({ s with h := Hi } : St).put oi.dst vi := by cases oi.dst <;> rfl
        have c2 : ({ (({ s with h := Hx } : St).put ox.dst vx) with h := Hi } : St) = ({ s with h := Hi } : St).put ox.dst vx := by cases ox.dst <;> rfl
        rw [c1, c2]
        have := put_comm (s := { s with h := Hi }) (d := oi.dst) (e := ox.dst) (fun t h h' => a2 t h' h) vi vx Hi
        have c3 : ∀ (d : Option Tmp) (v : AV), ({ (({ s with h := Hi } : St).put d v) with h := Hi } : St) = ({ s with h := Hi } : St).put d v := by intro d v; cases d <;> rfl
        rw [c3, c3] at this
        exact this
      rw [e5] at e4
      refine .cons hoi hwi' e3 (by rw [put_h]; exact o5) (.cons hox (by rw [wanted_put a3]; exact hwx) e4 ?_ hr2)
      have : s3.h = Hi := by rw [e2, put_h]
      rw [this, put_h, o6]
      unfold fpOf
      rw [footprint_congr ox (ev_put a3)]

end Go.Ev
