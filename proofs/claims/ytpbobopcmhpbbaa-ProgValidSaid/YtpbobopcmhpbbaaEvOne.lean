/- A function's frame; one operation in it; a list of operations. -/
import Derived.Test.YtpbobopcmhpbbaaEvOp
set_option linter.unusedVariables false
set_option linter.unusedSimpArgs false
namespace Go.Ev
open Go.RowKit

variable {P : Program} {B0 : Nat} {w0 : Base} {w : World} {I0 : Imm} {L0 : List Lay}

theorem look_mem : ∀ {t : Tm} {d : Nat} {v : AV}, look t d = some v → (d, v) ∈ t
  | (k, u) :: t, d, v, h => by
    simp only [look] at h
    split at h
    · rename_i e
      simp at h; subst h; subst e
      exact List.mem_cons_self
    · exact List.mem_cons_of_mem _ (look_mem h)

abbrev Desc (t : Tm) : Prop := t.Pairwise fun a b => b.1 < a.1

theorem ins_mem {d : Nat} {v : AV} : ∀ {t : Tm} {q : Nat × AV}, q ∈ ins d v t → q = (d, v) ∨ (q ∈ t ∧ q ≠ (d, v))
  | [], q, h => by simp [ins] at h; exact .inl h
  | (k, u) :: t, q, h => by
    by_cases e : q = (d, v)
    · exact .inl e
    · refine .inr ⟨?_, e⟩
      simp only [ins] at h
      split at h
      · rcases List.mem_cons.1 h with h | h
        · exact absurd h e
        · exact List.mem_cons_of_mem _ h
      · split at h
        · rcases List.mem_cons.1 h with h | h
          · exact absurd h e
          · exact h
        · rcases List.mem_cons.1 h with h | h
          · rw [h]; exact List.mem_cons_self
          · rcases ins_mem h with h | h
            · exact absurd h e
            · exact List.mem_cons_of_mem _ h.1

theorem ins_key {d : Nat} {v : AV} {t : Tm} {q : Nat × AV} (h : q ∈ ins d v t) : q.1 = d ∨ q ∈ t := by
  rcases ins_mem h with rfl | h
  · exact .inl rfl
  · exact .inr h.1

theorem ins_sorted (d : Nat) (v : AV) : ∀ t : Tm, Desc t → Desc (ins d v t)
  | [], _ => by simp [ins]
  | (k, u) :: t, h => by
    obtain ⟨h1, h2⟩ := List.pairwise_cons.1 h
    simp only [ins]
    split
    · rename_i e
      subst e
      exact List.pairwise_cons.2 ⟨h1, h2⟩
    · split
      · rename_i e
        refine List.pairwise_cons.2 ⟨fun q hq => ?_, h⟩
        rcases List.mem_cons.1 hq with rfl | hq
        · exact e
        · have := h1 q hq
          simp only [] at this ⊢; omega
      · rename_i e1 e2
        refine List.pairwise_cons.2 ⟨fun q hq => ?_, ins_sorted d v t h2⟩
        rcases ins_key hq with hq | hq
        · simp only [hq]; omega
        · exact h1 q hq

theorem ins_in (d : Nat) (v : AV) : ∀ t : Tm, (d, v) ∈ ins d v t
  | [] => by simp [ins]
  | (k, u) :: t => by
    simp only [ins]
    split
    · exact List.mem_cons_self
    · split
      · exact List.mem_cons_self
      · exact List.mem_cons_of_mem _ (ins_in d v t)

theorem desc_key {t : Tm} (h : Desc t) {p q : Nat × AV} (hp : p ∈ t) (hq : q ∈ t) (e : p.1 = q.1) : p = q := by
  induction t with
  | nil => cases hp
  | cons a t ih =>
    obtain ⟨h1, h2⟩ := List.pairwise_cons.1 h
    rcases List.mem_cons.1 hp with hp1 | hp1 <;> rcases List.mem_cons.1 hq with hq1 | hq1
    · rw [hp1, hq1]
    · have := h1 q hq1; rw [hp1] at e; omega
    · have := h1 p hp1; rw [hq1] at e; omega
    · exact ih h2 hp1 hq1

theorem ins_ne {d : Nat} {v : AV} {t : Tm} (h : Desc t) {q : Nat × AV} (hq : q ∈ ins d v t) (hne : q ≠ (d, v)) : d ≠ q.1 := fun e =>
  hne (desc_key (ins_sorted d v t h) hq (ins_in d v t) e.symm)

theorem look_ins_ne {d e : Nat} {v : AV} (hne : d ≠ e) : ∀ t : Tm, look (ins d v t) e = look t e
  | [] => by simp [ins, look, hne]
  | (k, u) :: t => by
    simp only [ins]
    split
    · rename_i h; subst h; simp [look, hne]
    · split
      · simp [look, hne]
      · simp only [look, look_ins_ne hne t]

theorem ins_comm {d e : Nat} {v u : AV} (hne : d ≠ e) : ∀ t : Tm, ins d v (ins e u t) = ins e u (ins d v t)
  | [] => by
    simp only [ins]
    repeat' split
    all_goals first | rfl | omega
  | (k, x) :: t => by
    have ih := ins_comm (v := v) (u := u) hne t
    rcases Nat.lt_trichotomy k d with h1 | h1 | h1 <;> rcases Nat.lt_trichotomy k e with h2 | h2 | h2 <;> rcases Nat.lt_trichotomy d e with h3 | h3 | h3
    all_goals first
      | omega
      | (subst h1; simp [ins, Nat.ne_of_gt, Nat.ne_of_lt, Nat.not_lt_of_lt, *]; done)
      | (subst h2; simp [ins, Nat.ne_of_gt, Nat.ne_of_lt, Nat.not_lt_of_lt, *]; done)
      | (have a1 : k ≠ d := by omega
         have a2 : k ≠ e := by omega
         have a3 : d ≠ e := by omega
         have a4 : e ≠ d := by omega
         simp [ins, a1, a2, a3, a4, h1, h2, h3, Nat.not_lt_of_lt h1, Nat.not_lt_of_lt h2, Nat.not_lt_of_lt h3, ih])

/-- The temporaries are as the abstract state says. -/
def TmOk (I : Imm) (L : List Lay) (n : Nat) (t : Tm) (vs : Array Value) : Prop :=
  vs.size = n ∧ Desc t ∧ ∀ q ∈ t, q.1 < n ∧ Rep I L q.2 (vs.getD q.1 undef)

theorem TmOk.at {I : Imm} {L : List Lay} {n : Nat} {t : Tm} {vs : Array Value} (h : TmOk I L n t vs) {d : Nat} {v : AV} (hl : look t d = some v) : Rep I L v (vs.getD d undef) :=
  (h.2.2 _ (look_mem hl)).2
theorem TmOk.mono {I : Imm} {L : List Lay} {I' : Imm} {L' : List Lay} (hx : Ext I L I' L') {n : Nat} {t : Tm} {vs : Array Value} (h : TmOk I L n t vs) : TmOk I' L' n t vs :=
  ⟨h.1, h.2.1, fun q hq => ⟨(h.2.2 q hq).1, (h.2.2 q hq).2.mono hx⟩⟩
theorem TmOk.sub {I : Imm} {L : List Lay} {n : Nat} {t t' : Tm} {vs : Array Value} (h : TmOk I L n t vs) (hs : t'.Sublist t) : TmOk I L n t' vs :=
  ⟨h.1, h.2.1.sublist hs, fun q hq => h.2.2 q (hs.subset hq)⟩

theorem rem1_sub (d : Nat) : ∀ t : Tm, (rem1 d t).Sublist t
  | [] => .slnil
  | (k, v) :: t => by
    simp only [rem1]
    split
    · exact List.sublist_cons_self _ _
    · exact (rem1_sub d t).cons_cons _
theorem dropT_sub : ∀ (l : List Nat) (t : Tm), (dropT l t).Sublist t
  | [], t => List.Sublist.refl t
  | d :: l, t => (dropT_sub l _).trans (rem1_sub d t)
theorem keepT_sub (l : Option (List Nat)) (t : Tm) : (keepT l t).Sublist t := by
  cases l with
  | none => exact List.Sublist.refl t
  | some l => exact List.filter_sublist

theorem initT_ok {I : Imm} {L : List Lay} {vs : Array Value} {n : Nat} : ∀ (as : List AV) (i : Nat) (acc : Tm), (∀ j y, as[j]? = some y → i + j < n ∧ Rep I L y (vs.getD (i + j) undef)) →
    (∀ q ∈ acc, q.1 < i) → TmOk I L n acc vs → TmOk I L n (initT i as acc) vs
  | [], i, acc, _, _, h => h
  | a :: as, i, acc, h1, h2, h => by
    refine initT_ok as (i + 1) ((i, a) :: acc) (fun j y hy => ?_) (fun q hq => ?_) ⟨h.1, List.pairwise_cons.2 ⟨fun q hq => h2 q hq, h.2.1⟩, fun q hq => ?_⟩
    · have := h1 (j + 1) y (by simpa using hy)
      rwa [show i + (j + 1) = i + 1 + j by omega] at this
    · rcases List.mem_cons.1 hq with rfl | hq
      · show i < i + 1; omega
      · have := h2 q hq; omega
    · rcases List.mem_cons.1 hq with rfl | hq
      · simpa using h1 0 a rfl
      · exact h.2.2 q hq

/-- The frame's temporaries and the memory are as the abstract state says. -/
def StOk (B0 : Nat) (w0 : Base) (I0 : Imm) (L0 : List Lay) (s : St) (a : Act) (w : World) : Prop :=
  ∃ I L, Inv B0 w0 I s.h L w ∧ Ext I0 L0 I L ∧ a.defers = [] ∧ TmOk I L s.n s.t a.tmps

theorem StOk.drew {s : St} {a : Act} (h : StOk B0 w0 I0 L0 s a w) : StOk B0 w0 I0 L0 s a w.drew := by
  obtain ⟨I, L, h1, h2⟩ := h
  exact ⟨I, L, h1.drew, h2⟩

theorem rep_ofK {I : Imm} {L : List Lay} (v : Value) : Rep I L (ofK v) v := by
  cases v with
  | agg cs => exact .top _
  | tuple vs =>
    show Rep I L (if vs.size = 0 then .tup [] else .top) _
    split
    · rename_i h
      have e1 : vs = #[] := Array.size_eq_zero_iff.1 h
      subst e1
      exact .tup [] #[] rfl (fun i y h => by simp at h)
    · exact .top _
  | bool b => exact rep_ofC (.bool b) rfl
  | int k n => exact rep_ofC (.int k n) rfl
  | string s => exact rep_ofC (.string s) rfl
  | pointer a => exact rep_ofC (.pointer a) rfl
  | nilFunc => exact rep_ofC .nilFunc rfl
  | nilIface => exact rep_ofC .nilIface rfl
  | map r => exact rep_ofC (.map r) rfl
  | slice a n c => exact rep_ofC (.slice a n c) rfl
  | func fn first cap => exact rep_ofC (.func fn first cap) rfl
  | _ => exact .top _

theorem ev_rep {I : Imm} {L : List Lay} {s : St} {a : Act} (h : TmOk I L s.n s.t a.tmps) (x : Operand) : Rep I L (s.ev x) (a.eval x) := by
  cases x with
  | tmp t =>
    show Rep I L (lookD s.t t) (a.tmps.getD t undef)
    unfold lookD
    cases hq : look s.t t with
    | some y => exact h.at hq
    | none => exact .top _
  | const v => exact rep_ofK v
  | global g => exact .top _
  | func f => exact .clo f [] #[] rfl (fun i y h => by simp at h)

theorem put_rep {I : Imm} {L : List Lay} {s : St} {a : Act} (h : TmOk I L s.n s.t a.tmps) (d : Option Tmp) {x : AV} {v : Value} (hv : Rep I L x v) (H : List MB) :
    TmOk I L (({ s with h := H } : St).put d x).n ((({ s with h := H } : St).put d x).t) ((a.put d v).tmps) := by
  cases d with
  | none => exact h
  | some i =>
    show TmOk I L s.n (if i < s.n then ins i x s.t else s.t) (a.tmps.setIfInBounds i v)
    by_cases hi : i < s.n
    · simp only [hi, if_true]
      refine ⟨by simp [h.1], ins_sorted i x s.t h.2.1, fun q hq => ?_⟩
      rcases ins_mem hq with rfl | ⟨h1, h2⟩
      · have : i < a.tmps.size := by rw [h.1]; exact hi
        refine ⟨hi, ?_⟩
        simpa [Array.getD_eq_getD_getElem?, this] using hv
      · have hne : i ≠ q.1 := ins_ne h.2.1 hq h2
        have : (a.tmps.setIfInBounds i v).getD q.1 undef = a.tmps.getD q.1 undef := by
          simp [Array.getD_eq_getD_getElem?, Array.getElem?_setIfInBounds_ne hne]
        rw [this]; exact h.2.2 q h1
    · simp only [hi, if_false]
      have e : a.tmps.setIfInBounds i v = a.tmps := by
        have hs := h.1
        apply Array.ext
        · simp
        · intro j h1 h2
          have hne : i ≠ j := fun e => hi (by rw [e, ← h.1]; exact h2)
          exact Array.getElem_setIfInBounds_ne h2 hne
      rw [e]; exact h

theorem put_h (s : St) (d : Option Tmp) (x : AV) : (s.put d x).h = s.h := by cases d <;> rfl
theorem put_defers (a : Act) (d : Option Tmp) (v : Value) : (a.put d v).defers = a.defers := by cases d <;> rfl

theorem wanted_sound {I : Imm} {L : List Lay} {ops : Array Oper} {s : St} {a : Act} (h : TmOk I L s.n s.t a.tmps) {o : Oper} {b : Bool} (hw : evWanted ops.toList s o = some b) :
    Region.wanted o (yielded ops a.tmps) = b := by
  unfold evWanted at hw
  unfold Region.wanted
  cases hg : o.guard with
  | none => rw [hg] at hw; simpa using hw
  | some p =>
    obtain ⟨j, wnt⟩ := p
    rw [hg] at hw
    simp only [Array.getElem?_toList] at hw
    simp only [yielded]
    cases hj : ops[j]? with
    | none =>
      rw [hj] at hw
      simp at hw
      simp [hw]
    | some q =>
      rw [hj] at hw
      simp only [Option.bind_some] at hw ⊢
      cases hd : q.dst with
      | none => rw [hd] at hw; simp at hw; simp [hw]
      | some d =>
        rw [hd] at hw
        simp only [Option.bind_some] at hw ⊢
        cases ht : look s.t d with
        | none => rw [ht] at hw; simp at hw
        | some y =>
          rw [ht] at hw
          have hr := h.at ht
          have hlt : d < a.tmps.size := by rw [h.1]; exact (h.2.2 _ (look_mem ht)).1
          have hget : a.tmps[d]? = some (a.tmps.getD d undef) := by simp [Array.getD_eq_getD_getElem?, hlt]
          rw [hget]
          generalize a.tmps.getD d undef = v at *
          cases y with
          | bool c =>
            cases hr
            simp at hw
            subst hw
            simp
          | tup vs =>
            cases vs with
            | nil =>
              cases hr
              simp at hw; subst hw
              simp
            | cons _ _ => simp at hw
          | _ => simp at hw

theorem call_value_run {ρ : Operand → AV} {ρc : Operand → Value} {I : Imm} {L : List Lay} (hρ : ∀ x, Rep I L (ρ x) (ρc x)) {f : Operand} {g : Nat} {cs : List AV} (hf : ρ f = .clo g cs) (args : Array Operand) (ty : TypeId) (ats : Array TypeId)
    (hg : ∀ (vs : Array Value) (w : World), (callFunc g vs).run P w = .ok (.enter g vs) w) (w : World) :
    ∃ vs, (do let d ← resolve ρc { callee := .value f, args := args, argTypes := ats } ty; invoke d.target d.args : Sem Next).run P w = .ok (.enter g vs) w ∧ RepL I L (args.toList.map ρ ++ cs) vs := by
  have hr := hρ f
  rw [hf] at hr
  generalize hv : ρc f = v at hr
  cases hr with
  | clo _ _ ws hn hR =>
    refine ⟨args.map ρc ++ ws, ?_, ?_, ?_⟩
    · simp only [resolve, hv, Deferred.ofValue, Sem.run_bind, Sem.run_pure, Result.andThen_ok, invoke, Array.empty_append, hg]
    · simp [hn]
    · intro i y hy
      by_cases h : i < args.size
      · rw [List.getElem?_append_left (by simpa using h)] at hy
        simp only [List.getElem?_map, Option.map_eq_some_iff, Array.getElem?_toList] at hy
        obtain ⟨x, g1, g2⟩ := hy
        subst g2
        have : (args.map ρc ++ ws).getD i undef = ρc x := by
          simp only [Array.getD_eq_getD_getElem?]
          rw [Array.getElem?_append_left (by simpa using h)]
          simp [g1]
        rw [this]; exact hρ x
      · rw [List.getElem?_append_right (by simpa using h)] at hy
        have : (args.map ρc ++ ws).getD i undef = ws.getD (i - args.size) undef := by
          simp only [Array.getD_eq_getD_getElem?]
          rw [Array.getElem?_append_right (by simpa using h)]
          simp
        rw [this]
        exact hR _ y (by simpa using hy)

/-- One operation in the frame. -/
theorem evOne_sound {cf : CF} (hcf : CfOk P cf) {mu : List Nat} {ops : Array Oper} {o : Oper} {s s' : St} {a : Act} (h : evOne P cf mu ops.toList o s = some s') (hs : StOk B0 w0 I0 L0 s a w)
    {Q : Exit → Act → World → Prop} {K : Act → World → Prop} (hK : ∀ a' w', StOk B0 w0 I0 L0 s' a' w' → K a' w') :
    if Region.wanted o (yielded ops a.tmps) then o.wp P a w K Q else K (a.put o.dst undef) w := by
  obtain ⟨I, L, hi, hx, hd, hr⟩ := hs
  unfold evOne at h
  split at h
  · rename_i hw
    rw [wanted_sound hr hw, if_pos rfl]
    split at h
    · rename_i v H1 hop
      simp at h; subst h
      by_cases hc : isFnCall o = true
      · obtain ⟨dst, op, type, pos, after, guard⟩ := o
        cases op <;> try (simp [isFnCall] at hc; done)
        rename_i c
        obtain ⟨callee, args, ats⟩ := c
        cases callee with
        | builtin b => simp [isFnCall] at hc
        | invoke r m => simp [evOp, evCall] at hop
        | value f =>
          simp only [evOp, evCall] at hop
          split at hop
          · rename_i g cs hf
            obtain ⟨c1, c2⟩ := hcf _ _ _ _ _ hop
            obtain ⟨vs, e1, e2⟩ := call_value_run (P := P) (fun x => ev_rep hr x) hf args type ats c1 w
            show Oper.upon P _ a K Q ((execOp a.eval _).run P w)
            simp only [execOp]
            rw [e1]
            show Calls P g vs w _
            refine (c2 B0 w0 w I L vs hi e2).mono ?_
            rintro e w' ⟨u, I', L', rfl, i1, i2, i3⟩
            refine hK _ _ ⟨I', L', by rw [put_h]; exact i1, hx.trans i2, by rw [put_defers]; exact hd, put_rep (hr.mono i2) _ i3 _⟩
          · simp at hop
      · obtain ⟨n, u, w', I', L', e1, e2, e3, e4, e5⟩ := evOp_sound hi (fun x => ev_rep hr x) (by simpa using hc) hop
        show Oper.upon P o a K Q ((execOp a.eval o).run P w)
        rw [e1]
        have fin : K (a.put o.dst u) w' := hK _ _ ⟨I', L', by rw [put_h]; exact e3, hx.trans e4, by rw [put_defers]; exact hd, put_rep (hr.mono e4) _ e5 _⟩
        cases n <;> simp only [nextVal, reduceCtorEq, Option.some.injEq] at e2
        · subst e2; exact fin
        · subst e2; exact fin
    · simp at h
  · rename_i hw
    rw [wanted_sound hr hw]
    simp only [Bool.false_eq_true, if_false]
    simp at h; subst h
    refine hK _ _ ⟨I, L, by rw [put_h]; exact hi, hx, by rw [put_defers]; exact hd, ?_⟩
    exact put_rep hr o.dst (.tup [] #[] rfl (fun i y h => by simp at h)) s.h
  · simp at h

theorem evOps_sound {cf : CF} (hcf : CfOk P cf) {mu : List Nat} {ops : Array Oper} {Q : Exit → Act → World → Prop} : ∀ (l : List Oper) {s s' : St} {a : Act} {w : World}, evOps P cf mu ops.toList l s = some s' → StOk B0 w0 I0 L0 s a w →
    (∀ a' w', StOk B0 w0 I0 L0 s' a' w' → Q .normal a' w') → wpList P ops Q l a w
  | [], s, s', a, w, h, hs, hQ => by
    simp [evOps] at h; subst h
    exact hQ a w hs
  | o :: l, s, s', a, w, h, hs, hQ => by
    simp only [evOps] at h
    split at h
    · rename_i s1 h1
      have := evOne_sound (Q := Q) (K := wpList P ops Q l) hcf h1 hs (fun a' w' hs' => evOps_sound hcf l h hs' hQ)
      unfold wpList
      split
      · rename_i hw; rw [if_pos hw] at this; exact .inl this
      · rename_i hw; rw [if_neg hw] at this; exact this
    · simp at h

end Go.Ev
