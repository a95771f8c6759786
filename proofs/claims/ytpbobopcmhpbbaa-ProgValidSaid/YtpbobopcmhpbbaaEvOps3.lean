/- Single operations: composites, slices, builtins that only look. -/
import Derived.Test.YtpbobopcmhpbbaaEvOps2
set_option linter.unusedVariables false
set_option linter.unusedSimpArgs false
namespace Go.Ev
open Go.RowKit

variable {P : Program} {B0 : Nat} {w0 : Base} {w : World} {I : Imm} {H : List MB} {L : List Lay}

theorem un_sound {op : UnOp} {x : AV} {a : Value} (hx : Rep I L x a) {r : AV} (h : evUn op x = some r) (w : World) :
    ∃ u, (Op.unary op a).run P w = .ok u w ∧ Rep I L r u := by
  unfold evUn at h
  split at h
  · simp only [Option.some.injEq] at h; subst h; cases hx; exact ⟨_, rfl, .int _ _⟩
  · simp only [Option.some.injEq] at h; subst h; cases hx; exact ⟨_, rfl, .int _ _⟩
  · simp at h; subst h; cases hx; exact ⟨_, rfl, .bool _⟩
  · simp at h

theorem convert_sound {s d : TypeId} {x : AV} {a : Value} (hx : Rep I L x a) {r : AV} (h : evConvert P s d x = some r) (w : World) :
    ∃ u, (convert s d a).run P w = .ok u w ∧ Rep I L r u := by
  unfold evConvert at h
  split at h
  · rename_i k n
    cases hx
    split at h
    · rename_i k1 k2 h1 h2
      simp at h; subst h
      refine ⟨_, ?_, .int _ _⟩
      simp only [convert, Sem.run_bind, run_underlying (tyInt_eq h1), run_underlying (tyInt_eq h2), Result.andThen_ok, Conv.intToInt, Sem.run_pure]
    · simp at h
  · rename_i b
    cases hx
    split at h
    · rename_i hc
      simp at h; subst h
      refine ⟨_, ?_, .str _⟩
      simp only [convert, Sem.run_bind, run_underlying (tyStr_eq hc.1), run_underlying (tyStr_eq hc.2), Result.andThen_ok, Sem.run_pure]
    · simp at h
  · simp at h

/-- Laying values over cells. -/
theorem foldl_set (off : Nat) : ∀ (vs : List Value) (k : Nat) (cells : Array Value), off + k + vs.length ≤ cells.size →
    ((vs.zipIdx k).foldl (fun (cs : Array Value) (p : Value × Nat) => cs.setIfInBounds (off + p.2) p.1) cells).size = cells.size ∧
    ∀ i, ((vs.zipIdx k).foldl (fun (cs : Array Value) (p : Value × Nat) => cs.setIfInBounds (off + p.2) p.1) cells).getD i undef =
      if off + k ≤ i ∧ i < off + k + vs.length then vs.getD (i - (off + k)) undef else cells.getD i undef
  | [], k, cells, _ => by
    refine ⟨rfl, fun i => ?_⟩
    rw [if_neg (by simp)]; rfl
  | v :: vs, k, cells, h => by
    simp only [List.length_cons] at h
    obtain ⟨h1, h2⟩ := foldl_set off vs (k + 1) (cells.setIfInBounds (off + k) v) (by simp; omega)
    simp only [List.zipIdx_cons, List.foldl_cons]
    refine ⟨by rw [h1]; simp, fun i => ?_⟩
    rw [h2 i]
    by_cases g : off + (k + 1) ≤ i ∧ i < off + (k + 1) + vs.length
    · rw [if_pos g, if_pos (by simp; omega)]
      have : i - (off + k) = (i - (off + (k + 1))) + 1 := by omega
      rw [this]; simp
    · rw [if_neg g]
      by_cases e : i = off + k
      · subst e
        rw [if_pos (by simp)]
        have : off + k < cells.size := by omega
        simp [Array.getD_eq_getD_getElem?, this]
      · rw [if_neg (by simp; omega)]
        have : ¬ off + k = i := fun h => e h.symm
        simp [Array.getD_eq_getD_getElem?, this]

theorem splice_length {cs vs : List AV} {j : Nat} (h : j + vs.length ≤ cs.length) : (splice cs j vs).length = cs.length := by
  unfold splice; simp; omega

theorem splice_get {cs vs : List AV} {j : Nat} (h : j + vs.length ≤ cs.length) (i : Nat) :
    (splice cs j vs)[i]? = if j ≤ i ∧ i < j + vs.length then vs[i - j]? else cs[i]? := by
  unfold splice
  have hl : (cs.take j).length = j := by simp; omega
  by_cases h1 : i < j
  · rw [List.getElem?_append_left (by rw [hl]; exact h1), List.getElem?_take, if_pos h1, if_neg (by omega)]
  · rw [List.getElem?_append_right (by rw [hl]; omega), hl]
    by_cases h2 : i < j + vs.length
    · rw [List.getElem?_append_left (by omega), if_pos (by omega)]
    · rw [List.getElem?_append_right (by omega), List.getElem?_drop, if_neg (by omega)]
      congr 1; omega

/-- Cells and their values. -/
def RepCells (I : Imm) (L : List Lay) (cs : List AV) (ws : Array Value) : Prop :=
  ws.size = cs.length ∧ (∀ i, i < ws.size → scal (ws.getD i undef) = true) ∧ ∀ i y, cs[i]? = some y → Rep I L y (ws.getD i undef)

theorem RepCells.agg {cs : List AV} {ws : Array Value} (h : RepCells I L cs ws) : Rep I L (.agg cs) (.agg ws) := .agg cs ws h.1 h.2.1 h.2.2

theorem repCells_of {a : AV} {v : Value} (h : Rep I L a v) (ha : a.cells.all AV.ok = true) : RepCells I L a.cells v.cells := by
  obtain ⟨h1, h2⟩ := h.cells_scal ha
  refine ⟨h1, fun i hi => ?_, fun i y hy => (h2 i y hy).1⟩
  have hi' : i < a.cells.length := by rw [← h1]; exact hi
  exact (h2 i _ (List.getElem?_eq_getElem hi')).2

theorem fill_sound (place : Nat → Option (Nat × Nat)) (place' : Nat → Option (Nat × Nat)) {ρ : Operand → AV} {ρc : Operand → Value} (hρ : ∀ x, Rep I L (ρ x) (ρc x))
    (hp : ∀ i q, place i = some q → place' i = some q) : ∀ (parts : List (Nat × Operand)) (cs : List AV) (ws : Array Value) (r : List AV),
    RepCells I L cs ws → fillC place cs (parts.map fun q => (q.1, ρ q.2)) = some r → ∃ ws', Instr.fill place' ws (parts.map fun q => (q.1, ρc q.2)) = some ws' ∧ RepCells I L r ws'
  | [], cs, ws, r, hr, h => by
    simp [fillC] at h; subst h
    exact ⟨ws, rfl, hr⟩
  | (i, x) :: parts, cs, ws, r, hr, h => by
      have hv := hρ x
      simp only [List.map_cons] at h ⊢
      generalize ρ x = a at *
      generalize ρc x = v at *
      simp only [fillC] at h
      split at h
      · simp at h
      · rename_i off s hpl
        split at h
        · rename_i hc
          obtain ⟨c1, c2, c3⟩ := hc
          have hcell := repCells_of hv c3
          have hpl' := hp _ _ hpl
          have hsz : v.cells.size = s := by rw [hcell.1]; exact c1
          simp only [Instr.fill, hpl']
          rw [if_neg (by
            have := hr.1
            simp [hsz]; omega)]
          have hfold : (v.cells.zipIdx.foldl (fun (cs : Array Value) (p : Value × Nat) => cs.setIfInBounds (off + p.2) p.1) ws) =
              ((v.cells.toList.zipIdx 0).foldl (fun (cs : Array Value) (p : Value × Nat) => cs.setIfInBounds (off + p.2) p.1) ws) := by
            rw [← Array.foldl_toList]; simp
          obtain ⟨f1, f2⟩ := foldl_set off v.cells.toList 0 ws (by have := hr.1; simp [hsz]; omega)
          have hsp : (splice cs off a.cells).length = cs.length := splice_length (by omega)
          refine fill_sound place place' hρ hp parts _ _ r ⟨?_, fun k hk => ?_, fun k y hy => ?_⟩ h
          · show (v.cells.zipIdx.foldl (fun (cs : Array Value) (p : Value × Nat) => cs.setIfInBounds (off + p.2) p.1) ws).size = _
            rw [hfold, f1, hsp]; exact hr.1
          · show scal ((v.cells.zipIdx.foldl (fun (cs : Array Value) (p : Value × Nat) => cs.setIfInBounds (off + p.2) p.1) ws).getD k undef) = true
            have hk' : k < ws.size := by
              have : k < (v.cells.zipIdx.foldl (fun (cs : Array Value) (p : Value × Nat) => cs.setIfInBounds (off + p.2) p.1) ws).size := hk
              rw [hfold, f1] at this; exact this
            rw [hfold, f2]
            by_cases g : off + 0 ≤ k ∧ k < off + 0 + v.cells.toList.length
            · rw [if_pos g]
              simp at g
              have : v.cells.toList.getD (k - (off + 0)) undef = v.cells.getD (k - off) undef := by simp [List.getD, Array.getD_eq_getD_getElem?]
              rw [this]; exact hcell.2.1 _ (by omega)
            · rw [if_neg g]
              exact hr.2.1 k hk'
          · show Rep I L y ((v.cells.zipIdx.foldl (fun (cs : Array Value) (p : Value × Nat) => cs.setIfInBounds (off + p.2) p.1) ws).getD k undef)
            rw [hfold, f2]
            rw [splice_get (by omega)] at hy
            by_cases g : off ≤ k ∧ k < off + a.cells.length
            · rw [if_pos g] at hy
              rw [if_pos (by simp [hsz]; omega)]
              have : v.cells.toList.getD (k - (off + 0)) undef = v.cells.getD (k - off) undef := by simp [List.getD, Array.getD_eq_getD_getElem?]
              rw [this]; exact hcell.2.2 _ y hy
            · rw [if_neg g] at hy
              rw [if_neg (by simp [hsz]; omega)]
              exact hr.2.2 k y hy
        · simp at h

theorem tyZero_eq {T : TypeId} {z : AV} (h : tyZero P T = some z) : ∃ v, (∀ w, (zeroValue T).run P w = .ok v w) ∧ z = ofV v := by
  unfold tyZero at h
  cases hi : P.info? T with
  | none => rw [hi] at h; simp at h
  | some i =>
    rw [hi] at h
    cases hz : i.zero with
    | none => simp [hz] at h
    | some v =>
      simp [hz] at h
      exact ⟨v, fun w => by simp [zeroValue, typeInfo, hi, hz], h.symm⟩

/-- The zero of a type, if all its cells are surely of one cell each. -/
theorem zero_cells {T : TypeId} {z : AV} (h : tyZero P T = some z) (hk : z.cells.all AV.ok = true) : ∃ v, (∀ w, (zeroValue T).run P w = .ok v w) ∧ RepCells I L z.cells v.cells ∧ Rep I L z v := by
  obtain ⟨v, h1, rfl⟩ := tyZero_eq h
  have hs : ∀ cs, v = .agg cs → ∀ i, i < cs.size → scal (cs.getD i undef) = true := by
    intro cs e i hi
    subst e
    simp only [ofV, AV.cells, List.all_eq_true, List.mem_map] at hk
    have hm : cs.getD i undef ∈ cs.toList := by
      simp [Array.getD_eq_getD_getElem?, hi]
    have := hk _ ⟨_, hm, rfl⟩
    cases hc : cs.getD i undef <;> rw [hc] at this <;> first | rfl | simp [ofC, AV.ok] at this
  have hr : Rep I L (ofV v) v := rep_ofV v hs
  exact ⟨v, h1, repCells_of hr hk, hr⟩

theorem places_run : ∀ (fs : List Field) (pl : List (Nat × Nat)), placesOf P fs = some pl → ∀ w, (fs.mapM fun f => (do pure (f.offset, ← sizeOf f.type) : Sem (Nat × Nat))).run P w = .ok pl w
  | [], pl, h, w => by simp [placesOf] at h; subst h; simp
  | f :: fs, pl, h, w => by
    simp only [placesOf] at h
    split at h
    · rename_i s l hs hl
      simp at h; subst h
      simp only [List.mapM_cons, Sem.run_bind, tySz_run hs, Result.andThen_ok, Sem.run_pure, places_run fs l hl]
    · simp at h

theorem build_sound {T : TypeId} {ps : List (Nat × Operand)} {ρ : Operand → AV} {ρc : Operand → Value} (hρ : ∀ x, Rep I L (ρ x) (ρc x)) {r : AV}
    (h : evBuild P T (ps.map fun q => (q.1, ρ q.2)) = some r) (w : World) :
    ∃ u, (Instr.build T (ps.map fun q => (q.1, ρc q.2)).toArray).run P w = .ok u w ∧ Rep I L r u := by
  unfold evBuild at h
  split at h
  · rename_i zs hzs
    split at h
    · rename_i hok
      obtain ⟨v, z1, z2, z3⟩ := zero_cells (I := I) (L := L) hzs (by simpa [AV.cells] using hok)
      split at h
      · rename_i pl hpl
        cases hq : fillC (fun i => pl[i]?) zs (ps.map fun q => (q.1, ρ q.2)) with
        | none => rw [hq] at h; simp at h
        | some cs =>
          rw [hq] at h; simp at h; subst h
          unfold tyPlaces at hpl
          split at hpl
          · rename_i fs hu
            obtain ⟨ws, f1, f2⟩ := fill_sound (fun i => pl[i]?) (fun i => pl.toArray[i]?) hρ (fun _ _ h => by simpa using h) ps zs v.cells cs z2 hq
            refine ⟨.agg ws, ?_, f2.agg⟩
            have hm : (fs.mapM fun f => (do pure (f.offset, ← sizeOf f.type) : Sem (Nat × Nat))).run P w = .ok pl.toArray w := by
              have := places_run fs.toList pl hpl w
              rw [← Array.toArray_toList (xs := fs), List.mapM_toArray]
              simp only [Sem.run_map, this, Result.andThen_ok]
            unfold Instr.build
            simp only [Sem.run_bind, z1, Result.andThen_ok, run_underlying hu, hm, f1, Sem.run_pure]
          · simp at hpl
      · split at h
        · rename_i n e he
          have hu := tyArr_eq he
          split at h
          · rename_i s hs
            cases hq : fillC (fun i => some (i * s, s)) zs (ps.map fun q => (q.1, ρ q.2)) with
            | none => rw [hq] at h; simp at h
            | some cs =>
              rw [hq] at h; simp at h; subst h
              obtain ⟨ws, f1, f2⟩ := fill_sound (fun i => some (i * s, s)) (fun i => some (i * s, s)) hρ (fun _ _ h => h) ps zs v.cells cs z2 hq
              refine ⟨.agg ws, ?_, f2.agg⟩
              unfold Instr.build
              simp only [Sem.run_bind, z1, Result.andThen_ok, run_underlying hu, tySz_run hs, f1, Sem.run_pure]
          · simp at h
        · simp at h
    · simp at h
  · simp at h

end Go.Ev
