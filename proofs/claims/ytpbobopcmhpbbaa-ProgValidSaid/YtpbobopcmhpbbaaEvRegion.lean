/- Regions. -/
import Derived.Test.YtpbobopcmhpbbaaEvDraw
set_option linter.unusedVariables false
set_option linter.unusedSimpArgs false
namespace Go.Ev
open Go.RowKit

variable {P : Program} {cf : CF} {mu : List Nat} {ops : Array Oper} {B0 : Nat} {w0 : Base} {w : World} {I0 : Imm} {L0 : List Lay}

/-- The earlier of two may come behind the later. -/
def Free (ops : Array Oper) (x i : Nat × Option FP) : Prop :=
  (∀ p q, ops[x.1]? = some p → ops[i.1]? = some q → p.apart ops q = true) ∧ apartO x.2 i.2 = true

theorem Run.front {i : Nat × Option FP} {B : List (Nat × Option FP)} : ∀ (A : List (Nat × Option FP)) {s s' : St}, Run P cf mu ops (A ++ i :: B) s s' → (∀ x ∈ A, Free ops x i) → Run P cf mu ops (i :: (A ++ B)) s s'
  | [], s, s', h, _ => h
  | x :: A, s, s', h, hf => by
    cases h with
    | cons ho hw h1 hfp hr =>
      have h2 := Run.front A hr (fun y hy => hf y (List.mem_cons_of_mem _ hy))
      have h3 := hf _ (List.mem_cons_self ..)
      exact (Run.cons ho hw h1 hfp h2).swap h3.1 h3.2

theorem run_of_D : ∀ (l : List Oper) (i : Nat) {s s' : St} {fl : List (Nat × FP)}, (∀ j, l[j]? = ops[i + j]?) → evOpsD P cf mu ops.toList i l s = some (fl, s') →
    ∃ rem, Run P cf mu ops rem s s' ∧ rem.map (·.1) = List.range' i l.length ∧ fl = rem.filterMap (fun p => p.2.map fun q => (p.1, q))
  | [], i, s, s', fl, _, h => by
    simp [evOpsD] at h; obtain ⟨rfl, rfl⟩ := h
    exact ⟨[], .nil s, rfl, rfl⟩
  | o :: l, i, s, s', fl, hl, h => by
    simp only [evOpsD] at h
    split at h
    · rename_i b hw
      split at h
      · rename_i s1 h1
        split at h
        · rename_i fl' s2 h2
          simp only [Option.some.injEq, Prod.mk.injEq] at h
          obtain ⟨e1, rfl⟩ := h
          have ho : ops[i]? = some o := by have := hl 0; simpa using this.symm
          obtain ⟨rem, r1, r2, r3⟩ := run_of_D l (i + 1) (fun j => by have := hl (j + 1); simpa [Nat.add_assoc, Nat.add_comm 1 j] using this) h2
          refine ⟨(i, fpOf mu s.ev o b s.h s1.h) :: rem, .cons ho hw h1 rfl r1, by simp [r2, List.range'_succ], ?_⟩
          rw [← e1]
          unfold fpOf
          cases hq : (if b = true then footprint mu s.ev o s.h s1.h else none) with
          | none => simp [r3]
          | some p => simp [r3]
        · simp at h
      · simp at h
    · simp at h

theorem pairs_of : ∀ (rem : List (Nat × Option FP)), pairsOk ops (rem.filterMap (fun p => p.2.map fun q => (p.1, q))) = true →
    rem.Pairwise (fun x i => dEdge ops i.1 x.1 = true ∨ apartO x.2 i.2 = true)
  | [], _ => .nil
  | (i, f) :: rem, h => by
    cases f with
    | none =>
      simp only [List.filterMap_cons, Option.map_none] at h
      refine .cons (fun y _ => .inr rfl) (pairs_of rem h)
    | some p =>
      simp only [List.filterMap_cons, Option.map_some, pairsOk, Bool.and_eq_true] at h
      refine .cons (fun y hy => ?_) (pairs_of rem h.2)
      obtain ⟨j, g⟩ := y
      cases g with
      | none => exact .inr rfl
      | some q =>
        have := List.all_eq_true.1 h.1 (j, q) (List.mem_filterMap.2 ⟨(j, some q), hy, rfl⟩)
        simp only [Bool.or_eq_true] at this
        exact this

theorem drawOk_spec (h : drawOk ops = true) :
    (∀ i o e, ops[i]? = some o → e ∈ o.after → Region.binds .any e = true → e.on < i) ∧
    (∀ i x, i < ops.size → x < i → dEdge ops i x = true ∨ ∀ p q, ops[x]? = some p → ops[i]? = some q → p.apart ops q = true) := by
  simp only [drawOk, Bool.and_eq_true] at h
  obtain ⟨h1, h2⟩ := h
  constructor
  · intro i o e ho he hb
    have hi : i < ops.size := (Array.getElem?_eq_some_iff.1 ho).1
    have := List.all_eq_true.1 h1 i (List.mem_range.2 hi)
    simp only [ho] at this
    have := List.all_eq_true.1 this e (by simpa using he)
    simpa [hb] using this
  · intro i x hi hx
    have := List.all_eq_true.1 h2 i (List.mem_range.2 hi)
    have := List.all_eq_true.1 this x (List.mem_range.2 hx)
    simp only [Bool.or_eq_true] at this
    rcases this with h | h
    · exact .inl h
    · refine .inr fun p q hp hq => ?_
      simp only [hp, hq] at h
      exact h

theorem wpAny_of_run (hcf : CfOk P cf) (hd : drawOk ops = true) {Q : Exit → Act → World → Prop} {s' : St} (hQ : ∀ a w, StOk B0 w0 I0 L0 s' a w → Q .normal a w) :
    ∀ (fuel : Nat) (rem : List (Nat × Option FP)) (listed : Array Bool) (s : St) (a : Act) (w : World), Run P cf mu ops rem s s' → StOk B0 w0 I0 L0 s a w →
      rem.Pairwise (fun x i => x.1 < i.1) → (∀ j, listed.getD j true = false ↔ j ∈ rem.map (·.1)) → listed.size = ops.size → rem.length ≤ fuel →
      rem.Pairwise (fun x i => dEdge ops i.1 x.1 = true ∨ apartO x.2 i.2 = true) → wpAny P .any ops Q fuel listed a w := by
  obtain ⟨hd1, hd2⟩ := drawOk_spec hd
  intro fuel
  induction fuel with
  | zero =>
    intro rem listed s a w hr hs hsort hl hsz hf hp
    have : rem = [] := List.length_eq_zero_iff.1 (by omega)
    subst this
    cases hr
    refine ⟨?_, hQ a w hs⟩
    cases hrr : Region.ready .any ops listed with
    | nil => rfl
    | cons x xs =>
      have hx : x ∈ Region.ready .any ops listed := by rw [hrr]; exact List.mem_cons_self ..
      rw [mem_ready] at hx
      have := (hl x).1 hx.1
      simp at this
  | succ fuel ih =>
    intro rem listed s a w hr hs hsort hl hsz hf hp
    have hlt : ∀ j, j ∈ rem.map (·.1) → j < ops.size := by
      intro j hj
      have := (hl j).2 hj
      rcases Nat.lt_or_ge j listed.size with g | g
      · omega
      · simp [Array.getElem?_eq_none g] at this
    constructor
    · intro hnil
      cases rem with
      | nil => cases hr; exact hQ a w hs
      | cons x rem =>
        exfalso
        have hxm : x.1 ∈ (x :: rem).map (·.1) := by simp
        have hx := hlt x.1 hxm
        have : x.1 ∈ Region.ready .any ops listed := by
          rw [mem_ready]
          refine ⟨(hl x.1).2 hxm, ops[x.1], by simp [hx], fun e he hb => ?_⟩
          have h1 := hd1 x.1 _ e (Array.getElem?_eq_getElem hx) he hb
          have h2 : e.on ∉ (x :: rem).map (·.1) := by
            intro hm
            obtain ⟨y, hy, hye⟩ := List.mem_map.1 hm
            rcases List.mem_cons.1 hy with g | g
            · subst g; omega
            · have := (List.pairwise_cons.1 hsort).1 y g
              omega
          have h3 : ¬ listed.getD e.on true = false := fun h => h2 ((hl e.on).1 h)
          have h4 : e.on < listed.size := by omega
          simp [Array.getD_eq_getD_getElem?, h4] at h3 ⊢
          exact h3
        rw [hnil] at this
        simp at this
    · intro i hi
      have hi' := mem_ready.1 hi
      have him := (hl i).1 hi'.1
      obtain ⟨⟨i', f⟩, hmem, hie⟩ := List.mem_map.1 him
      simp at hie; subst hie
      obtain ⟨A, B, rfl⟩ := List.append_of_mem hmem
      have hilt := hlt i' him
      have hAnot : ∀ x ∈ A, dEdge ops i' x.1 = false := by
        intro x hx
        cases hde : dEdge ops i' x.1 with
        | false => rfl
        | true =>
          obtain ⟨_, o, ho, hall⟩ := hi'
          simp only [dEdge, ho] at hde
          obtain ⟨e, he, hbe⟩ := List.any_eq_true.1 hde
          simp only [Bool.and_eq_true, beq_iff_eq] at hbe
          have h1 := hall e (by simpa using he) hbe.1
          rw [hbe.2] at h1
          have h2 := (hl x.1).2 (List.mem_map.2 ⟨x, List.mem_append_left _ hx, rfl⟩)
          have h3 : x.1 < listed.size := by
            have := hlt x.1 (List.mem_map.2 ⟨x, List.mem_append_left _ hx, rfl⟩)
            omega
          simp [Array.getD_eq_getD_getElem?, h3] at h1 h2
          rw [h1] at h2
          cases h2
      have hsort' := List.pairwise_append.1 hsort
      have hp' := List.pairwise_append.1 hp
      have hfree : ∀ x ∈ A, Free ops x (i', f) := by
        intro x hx
        have h1 := hAnot x hx
        have hxi : x.1 < i' := hsort'.2.2 x hx (i', f) (List.mem_cons_self ..)
        refine ⟨?_, ?_⟩
        · rcases hd2 i' x.1 hilt hxi with g | g
          · rw [h1] at g; cases g
          · exact g
        · rcases hp'.2.2 x hx (i', f) (List.mem_cons_self ..) with g | g
          · simp only [h1] at g; cases g
          · exact g
      have hr2 := Run.front A hr hfree
      cases hr2 with
      | @cons _ o b _ _ s1 _ _ ho hw h1 hfp hrest =>
        have key := evOne_sound (P := P) (Q := Q) (K := wpAny P .any ops Q fuel (listed.setIfInBounds i' true)) hcf h1 hs (fun a' w' hs' => by
          refine ih (A ++ B) _ s1 a' w' hrest hs' ?_ ?_ (by simp [hsz]) (by simp at hf ⊢; omega) ?_
          · exact List.pairwise_append.2 ⟨hsort'.1, (List.pairwise_cons.1 hsort'.2.1).2, fun x hx y hy => hsort'.2.2 x hx y (List.mem_cons_of_mem _ hy)⟩
          · intro j
            by_cases e : i' = j
            · subst e
              have hnot : i' ∉ (A ++ B).map (·.1) := by
                intro hm
                obtain ⟨y, hy, hye⟩ := List.mem_map.1 hm
                rcases List.mem_append.1 hy with g | g
                · have : y.1 < i' := hsort'.2.2 y g (i', f) (List.mem_cons_self ..)
                  omega
                · have : i' < y.1 := (List.pairwise_cons.1 hsort'.2.1).1 y g
                  omega
              have : (listed.setIfInBounds i' true).getD i' true = true := by
                have : i' < listed.size := by omega
                simp [Array.getD_eq_getD_getElem?, this]
              rw [this]
              exact ⟨fun h => (by cases h), fun h => absurd h hnot⟩
            · rw [getD_set_ne true e, hl j]
              simp only [List.map_append, List.map_cons, List.mem_append, List.mem_cons]
              constructor
              · rintro (g | g | g)
                · exact .inl g
                · exact absurd g.symm e
                · exact .inr g
              · rintro (g | g)
                · exact .inl g
                · exact .inr (.inr g)
          · exact List.pairwise_append.2 ⟨hp'.1, (List.pairwise_cons.1 hp'.2.1).2, fun x hx y hy => hp'.2.2 x hx y (List.mem_cons_of_mem _ hy)⟩)
        unfold wpOp
        simp only [ho]
        split
        · rename_i hwn; rw [if_pos hwn] at key; exact .inl key
        · rename_i hwn; rw [if_neg hwn] at key; exact key

theorem evRegion_sound (hcf : CfOk P cf) (hm : P.follows .mixedOrders = true) {id : Nat} {draw : Bool} {s s' : St} {a : Act} (h : evRegion P cf mu ops draw s = some s') (hs : StOk B0 w0 I0 L0 s a w)
    {Q : Exit → Act → World → Prop} (hQ : ∀ a w, StOk B0 w0 I0 L0 s' a w → Q .normal a w) : (Code.region id ops draw).wp P Q a w := by
  unfold evRegion at h
  cases draw with
  | false =>
    simp only [Bool.false_eq_true, if_false] at h
    exact wp_region_list (evOps_sound hcf ops.toList h hs hQ)
  | true =>
    simp only [if_true] at h
    split at h
    · rename_i fl s1 hD
      split at h
      · rename_i hc
        simp at h; subst h
        obtain ⟨rem, r1, r2, r3⟩ := run_of_D ops.toList 0 (fun j => by simp) hD
        rw [r3] at hc
        have hp := pairs_of rem hc.2
        have hlen : rem.length = ops.size := by
          have := congrArg List.length r2
          simpa using this
        refine wp_region_any hm (wpAny_of_run hcf hc.1 hQ ops.size rem _ s a _ r1 hs.drew ?_ ?_ (by simp) (by omega) hp)
        · have : (rem.map (·.1)).Pairwise (· < ·) := by rw [r2]; exact List.pairwise_lt_range'
          exact List.pairwise_map.1 this
        · intro j
          rw [r2]
          simp only [Array.length_toList, List.mem_range'_1, Nat.zero_le, Nat.zero_add, true_and]
          by_cases g : j < ops.size
          · simp [Array.getD_eq_getD_getElem?, g]
          · simp [Array.getD_eq_getD_getElem?, g]
      · simp at h
    · simp at h

end Go.Ev
