/- Single operations that make or write memory: literals, new variables, stores. -/
import Derived.Test.YtpbobopcmhpbbaaEvOps3
set_option linter.unusedVariables false
set_option linter.unusedSimpArgs false
namespace Go.Ev
open Go.RowKit

variable {P : Program} {B0 : Nat} {w0 : Base} {w : World} {I : Imm} {H : List MB} {L : List Lay}

/-- A row of elements of s cells each, as values. -/
def RowRep (I : Imm) (L : List Lay) (s : Nat) (es : List AV) (cs : Array Value) : Prop :=
  cs.size = es.length * s ∧ (∀ x ∈ es, x.cells.length = s) ∧
    ∀ (i j : Nat) (x y : AV), es[i]? = some x → x.cells[j]? = some y → scal (cs.getD (i * s + j) undef) = true ∧ Rep I L y (cs.getD (i * s + j) undef)

theorem RowRep.some {s : Nat} {es : List AV} {cs : Array Value} (h : RowRep I L s es cs) {i j : Nat} {x y : AV} (h1 : es[i]? = some x) (h2 : x.cells[j]? = some y) :
    ∃ v, cs[i * s + j]? = some v ∧ scal v = true ∧ Rep I L y v := by
  obtain ⟨a, b⟩ := h.2.2 i j x y h1 h2
  refine ⟨_, ?_, a, b⟩
  have hi : i < es.length := (List.getElem?_eq_some_iff.1 h1).1
  have hj : j < s := by rw [← h.2.1 x (List.mem_of_getElem? h1)]; exact (List.getElem?_eq_some_iff.1 h2).1
  have h3 : (i + 1) * s ≤ es.length * s := Nat.mul_le_mul_right s hi
  rw [Nat.add_mul] at h3
  have h4 : i * s + j < cs.size := by rw [h.1]; omega
  simp [Array.getD_eq_getD_getElem?, h4]

theorem apart_rows {s i i' j : Nat} (hj : j < s) (hne : i' ≠ i) : ¬ (i * s ≤ i' * s + j ∧ i' * s + j < i * s + s) := by
  rcases Nat.lt_or_ge i' i with h | h
  · have : (i' + 1) * s ≤ i * s := Nat.mul_le_mul_right s h
    rw [Nat.add_mul] at this; omega
  · have : (i + 1) * s ≤ i' * s := Nat.mul_le_mul_right s (by omega)
    rw [Nat.add_mul] at this; omega

theorem fillE_sound {s : Nat} {ρ : Operand → AV} {ρc : Operand → Value} (hρ : ∀ x, Rep I L (ρ x) (ρc x)) : ∀ (ps : List (Nat × Operand)) (es : List AV) (ws : Array Value) (r : List AV),
    RowRep I L s es ws → fillE s es (ps.map fun q => (q.1, ρ q.2)) = some r →
    ∃ ws', Instr.fill (fun i => some (i * s, s)) ws (ps.map fun q => (q.1, ρc q.2)) = some ws' ∧ RowRep I L s r ws' ∧ r.length = es.length
  | [], es, ws, r, hr, h => by
    simp [fillE] at h; subst h
    exact ⟨ws, rfl, hr, rfl⟩
  | (i, x) :: ps, es, ws, r, hr, h => by
    have hv := hρ x
    simp only [List.map_cons] at h ⊢
    generalize ρ x = a at *
    generalize ρc x = v at *
    simp only [fillE] at h
    split at h
    · rename_i hc
      obtain ⟨c1, c2, c3⟩ := hc
      have hcell := repCells_of hv c3
      have hsz : v.cells.size = s := by rw [hcell.1]; exact c1
      have hm : (i + 1) * s ≤ es.length * s := Nat.mul_le_mul_right s c2
      rw [Nat.add_mul] at hm
      have hws := hr.1
      simp only [Instr.fill]
      rw [if_neg (by simp [hsz]; omega)]
      have hfold : (v.cells.zipIdx.foldl (fun (cs : Array Value) (p : Value × Nat) => cs.setIfInBounds (i * s + p.2) p.1) ws) =
          ((v.cells.toList.zipIdx 0).foldl (fun (cs : Array Value) (p : Value × Nat) => cs.setIfInBounds (i * s + p.2) p.1) ws) := by
        rw [← Array.foldl_toList]; simp
      obtain ⟨f1, f2⟩ := foldl_set (i * s) v.cells.toList 0 ws (by simp [hsz]; omega)
      have hrr : RowRep I L s (es.set i a) (v.cells.zipIdx.foldl (fun (cs : Array Value) (p : Value × Nat) => cs.setIfInBounds (i * s + p.2) p.1) ws) := by
        refine ⟨by rw [hfold, f1, List.length_set]; exact hws, fun y hy => ?_, fun i' j y z h1 h2 => ?_⟩
        · rcases List.mem_or_eq_of_mem_set hy with g | g
          · exact hr.2.1 y g
          · rw [g]; exact c1
        · rw [hfold, f2]
          by_cases e : i = i'
          · subst e
            rw [List.getElem?_set_self c2] at h1
            obtain rfl := Option.some.inj h1
            have hj : j < a.cells.length := (List.getElem?_eq_some_iff.1 h2).1
            rw [if_pos (by simp [hsz]; omega)]
            have : v.cells.toList.getD (i * s + j - (i * s + 0)) undef = v.cells.getD j undef := by
              have : i * s + j - (i * s + 0) = j := by omega
              rw [this]; simp [List.getD, Array.getD_eq_getD_getElem?]
            rw [this]
            exact ⟨hcell.2.1 j (by omega), hcell.2.2 j z h2⟩
          · rw [List.getElem?_set_ne e] at h1
            have hj : j < s := by rw [← hr.2.1 y (List.mem_of_getElem? h1)]; exact (List.getElem?_eq_some_iff.1 h2).1
            rw [if_neg (by
              have := apart_rows (s := s) (i := i) (i' := i') hj (fun h => e h.symm)
              simp [hsz]; omega)]
            exact hr.2.2 i' j y z h1 h2
      obtain ⟨ws', g1, g2, g3⟩ := fillE_sound hρ ps (es.set i a) _ r hrr h
      exact ⟨ws', g1, g2, by rw [g3, List.length_set]⟩
    · simp at h

/-- As many zero values as are wanted. -/
theorem zeros_row {z : AV} {v : Value} (h : RepCells I L z.cells v.cells) {s n : Nat} (hs : z.cells.length = s) (_h0 : 0 < s) :
    RowRep I L s (List.replicate n z) ((Array.range (n * s)).map fun i => v.cells[i % v.cells.size]!) := by
  refine ⟨by simp, fun x hx => by rw [List.eq_of_mem_replicate hx]; exact hs, fun i j x y h1 h2 => ?_⟩
  have hi : i < n := by
    have := (List.getElem?_eq_some_iff.1 h1).1
    simpa using this
  have hx : x = z := by
    have := List.mem_of_getElem? h1
    exact List.eq_of_mem_replicate this
  subst hx
  have hj : j < s := by rw [← hs]; exact (List.getElem?_eq_some_iff.1 h2).1
  have hm : (i + 1) * s ≤ n * s := Nat.mul_le_mul_right s hi
  rw [Nat.add_mul] at hm
  have hsz : v.cells.size = s := by rw [h.1]; exact hs
  have e1 : (i * s + j) % s = j := by
    rw [Nat.mul_comm, Nat.mul_add_mod]; exact Nat.mod_eq_of_lt hj
  have e : ((Array.range (n * s)).map fun i => v.cells[i % v.cells.size]!).getD (i * s + j) undef = v.cells.getD j undef := by
    have hlt : i * s + j < n * s := by omega
    have hjs : j < v.cells.size := by omega
    have e2 : v.cells[j]! = v.cells[j] := getElem!_pos v.cells j hjs
    have e3 : v.cells[j]?.getD undef = v.cells[j] := by rw [Array.getElem?_eq_getElem hjs]; rfl
    simp only [Array.getD_eq_getD_getElem?, e3, Array.getElem?_map, Array.getElem?_range, hlt, if_true, Option.map_some, Option.getD_some, hsz, e1, e2]
  rw [e]
  exact ⟨h.2.1 j (by omega), h.2.2 j y h2⟩

theorem tySzE_eq {T : TypeId} {k : Nat} (h : tySzE P T = some k) : ∃ e, tyElem P T = some e ∧ tySz P e = some k := by
  unfold tySzE at h
  split at h
  · rename_i e he; exact ⟨e, he, h⟩
  · simp at h

/-- The cells of a literal slice. -/
theorem buildSlice_run {T : TypeId} {n : Nat} {ps : List (Nat × Operand)} {ρ : Operand → AV} {ρc : Operand → Value} (hρ : ∀ x, Rep I L (ρ x) (ρc x)) {es : List AV}
    (h : evBuildSlice P T n (ps.map fun q => (q.1, ρ q.2)) = some es) (w : World) :
    ∃ e s ws, tyElem P T = some e ∧ tySz P e = some s ∧ RowRep I L s es ws ∧ es.length = n ∧
      (Instr.buildSlice T n (ps.map fun q => (q.1, ρc q.2)).toArray).run P w = .ok (.slice (some ⟨w.heap.size, 0, none⟩) n n) (w.alloc (.cells ws e)) := by
  unfold evBuildSlice at h
  split at h
  · rename_i e he
    split at h
    · rename_i s z hs hz
      split at h
      · rename_i hc
        obtain ⟨c1, c2, c3, c4⟩ := hc
        obtain ⟨v, z1, z2, z3⟩ := zero_cells (I := I) (L := L) hz c4
        have hu := tyElem_eq he
        have hrow := zeros_row z2 c2 c3 (n := n)
        obtain ⟨ws, f1, f2, f3⟩ := fillE_sound hρ ps _ _ es hrow h
        refine ⟨e, s, ws, he, hs, f2, by rw [f3]; simp, ?_⟩
        unfold Instr.buildSlice
        simp only [Sem.run_bind, run_underlying hu, Result.andThen_ok, tySz_run hs]
        rw [if_neg (by omega)]
        by_cases h0 : n * s = 0
        · have e0 : ((Array.range (n * s)).map fun i => (#[] : Array Value)[i % (#[] : Array Value).size]!) = ((Array.range (n * s)).map fun i => v.cells[i % v.cells.size]!) := by
            rw [h0]; simp
          simp only [if_pos h0, Sem.run_bind, Sem.run_pure, Result.andThen_ok, e0, f1, newRow, run_newObj_alloc]
        · simp only [if_neg h0, Sem.run_bind, Sem.run_pure, Result.andThen_ok, z1, f1, newRow, run_newObj_alloc]
      · simp at h
    · simp at h
  · simp at h

theorem buildSlice_sound (hi : Inv B0 w0 I H L w) {T : TypeId} {n : Nat} {ps : List (Nat × Operand)} {ρ : Operand → AV} {ρc : Operand → Value} (hρ : ∀ x, Rep I L (ρ x) (ρc x)) {es : List AV}
    (h : evBuildSlice P T n (ps.map fun q => (q.1, ρ q.2)) = some es) :
    ∃ u w' I', (Instr.buildSlice T n (ps.map fun q => (q.1, ρc q.2)).toArray).run P w = .ok u w' ∧ Inv B0 w0 I' H L w' ∧ Ext I L I' L ∧ Rep I' L (.sl true es) u := by
  obtain ⟨e, s, ws, he, hs, hr, hl, hrun⟩ := buildSlice_run hρ h w
  obtain ⟨h1, h2⟩ := hi.newImm ws e
  refine ⟨_, _, _, hrun, h1, h2, ?_⟩
  have := Rep.sl (I := immNew I w.heap.size ws) (L := L) true es w.heap.size 0 n s (fun i j => ws.getD (i * s + j) undef) (by omega) (fun _ => hl.symm) hr.2.1
    (fun i j x y g1 g2 => by
      obtain ⟨v, a, b, c⟩ := hr.some g1 g2
      have e1 : ws.getD (i * s + j) undef = v := by simp [Array.getD_eq_getD_getElem?, a]
      rw [e1]
      exact ⟨by unfold immNew; rw [if_pos rfl]; rw [← a]; congr 1; omega, b⟩)
    (fun i j x y g1 g2 => (hr.2.2 i j x y g1 g2).2.mono h2)
  rwa [hl] at this

/-- A new block of ours with these elements. -/
theorem newRow_sound (hi : Inv B0 w0 I H L w) {s : Nat} {es : List AV} {ws : Array Value} (hr : RowRep I L s es ws) (T : TypeId) (spare : Array Value) :
    Inv B0 w0 I (H ++ [.row s es 0]) (L ++ [⟨s, es.length, w.heap.size, (ws ++ spare).size, 0, 0⟩]) (w.alloc (.cells (ws ++ spare) T)) ∧
      Ext I L I (L ++ [⟨s, es.length, w.heap.size, (ws ++ spare).size, 0, 0⟩]) := by
  refine hi.new (ws ++ spare) T s es hr.2.1 (by rw [Array.size_append, hr.1]; omega) (fun i j x y g1 g2 => ?_)
  obtain ⟨v, a, b, c⟩ := hr.some g1 g2
  have hlt : i * s + j < ws.size := by
    rcases Nat.lt_or_ge (i * s + j) ws.size with g | g
    · exact g
    · simp [Array.getElem?_eq_none g] at a
  exact ⟨v, by rw [Array.getElem?_append_left hlt]; exact a, b, c⟩

theorem lay_new (L : List Lay) (l : Lay) : (L ++ [l])[L.length]? = some l := by simp

theorem buildSliceMut_sound (hi : Inv B0 w0 I H L w) {T : TypeId} {n : Nat} {ps : List (Nat × Operand)} {ρ : Operand → AV} {ρc : Operand → Value} (hρ : ∀ x, Rep I L (ρ x) (ρc x)) {es : List AV}
    (h : evBuildSlice P T n (ps.map fun q => (q.1, ρ q.2)) = some es) {k : Nat} (hk : tySzE P T = some k) :
    ∃ u w' L', (Instr.buildSlice T n (ps.map fun q => (q.1, ρc q.2)).toArray).run P w = .ok u w' ∧ Inv B0 w0 I (H ++ [.row k es 0]) L' w' ∧ Ext I L I L' ∧ Rep I L' (.ms H.length k n 0 n) u := by
  obtain ⟨e, s, ws, he, hs, hr, hl, hrun⟩ := buildSlice_run hρ h w
  obtain ⟨e', he', hs'⟩ := tySzE_eq hk
  rw [he] at he'; obtain rfl := Option.some.inj he'
  rw [hs] at hs'; obtain rfl := Option.some.inj hs'
  have h1 := newRow_sound hi hr e #[]
  simp only [Array.append_empty] at h1
  refine ⟨_, _, _, hrun, h1.1, h1.2, ?_⟩
  refine .ms H.length s n 0 n ⟨s, es.length, w.heap.size, ws.size, 0, 0⟩ w.heap.size 0 n (by rw [← hi.len]; exact lay_new L _) (by simp; omega) rfl (by omega) (Nat.le_refl _) (fun _ => ⟨Nat.le_refl _, rfl, by simp, by omega, ?_⟩)
  simp [hr.1, hl]

/-- A value in a variable of its own. -/
theorem newVar_sound (hi : Inv B0 w0 I H L w) {a : AV} {v : Value} (hr : Rep I L a v) (ha : a.cells.all AV.ok = true) (T : TypeId) :
    ∃ u w' L', (do pure (.pointer (some (← newVar T v))) : Sem Value).run P w = .ok u w' ∧ Inv B0 w0 I (H ++ [.row a.cells.length [a] 0]) L' w' ∧ Ext I L I L' ∧ Rep I L' (.rf H.length 1 0 0) u := by
  have hc := repCells_of hr ha
  have hrow : RowRep I L a.cells.length [a] v.cells := by
    refine ⟨by simp [hc.1], fun x hx => by simp at hx; rw [hx], fun i j x y h1 h2 => ?_⟩
    match i, h1 with
    | 0, h1 =>
      simp at h1; subst h1
      simp only [Nat.zero_mul, Nat.zero_add]
      exact ⟨hc.2.1 j (by rw [hc.1]; exact (List.getElem?_eq_some_iff.1 h2).1), hc.2.2 j y h2⟩
    | i + 1, h1 => simp at h1
  have h1 := newRow_sound hi hrow T #[]
  simp only [Array.append_empty] at h1
  refine ⟨.pointer (some ⟨w.heap.size, 0, none⟩), _, _, ?_, h1.1, h1.2, ?_⟩
  · simp only [newVar, newRow, Sem.run_bind, run_newObj_alloc, Result.andThen_ok, Sem.run_pure]
  · exact .rf H.length 1 0 0 ⟨a.cells.length, [a].length, w.heap.size, v.cells.size, 0, 0⟩ w.heap.size 0 (by rw [← hi.len]; exact lay_new L _) (by simp) (fun _ => ⟨Nat.le_refl _, rfl, by simp⟩)

theorem alloc_sound (hi : Inv B0 w0 I H L w) {T : TypeId} {z : AV} (hz : tyZero P T = some z) (ha : z.cells.all AV.ok = true) :
    ∃ u w' L', (Instr.alloc T true (.tuple #[])).run P w = .ok u w' ∧ Inv B0 w0 I (H ++ [.row z.cells.length [z] 0]) L' w' ∧ Ext I L I L' ∧ Rep I L' (.rf H.length 1 0 0) u := by
  obtain ⟨v, z1, z2, z3⟩ := zero_cells (I := I) (L := L) hz ha
  obtain ⟨u, w', L', e1, e2, e3, e4⟩ := newVar_sound (P := P) hi z3 ha T
  refine ⟨u, w', L', ?_, e2, e3, e4⟩
  unfold Instr.alloc
  simp only [Sem.run_bind, z1, Result.andThen_ok]
  exact e1

/-- Overwriting cells of an element. -/
theorem setCells_get {x : AV} {j : Nat} {vs : List AV} (h : j + vs.length ≤ x.cells.length) (hv : vs.all AV.ok = true) :
    (setCells x j vs).cells.length = x.cells.length ∧ ∀ i, (setCells x j vs).cells[i]? = if j ≤ i ∧ i < j + vs.length then vs[i - j]? else x.cells[i]? := by
  by_cases hx : ∃ cs, x = .agg cs
  · obtain ⟨cs, rfl⟩ := hx
    exact ⟨splice_length h, fun i => splice_get h i⟩
  · have hxc : x.cells = [x] := by
      cases x <;> first | rfl | exact absurd ⟨_, rfl⟩ hx
    rw [hxc] at h ⊢
    match vs, h, hv with
    | [], h, _ =>
      have hs : setCells x j [] = x := by cases x <;> first | rfl | exact absurd ⟨_, rfl⟩ hx
      rw [hs]
      refine ⟨by rw [hxc], fun i => ?_⟩
      rw [if_neg (by intro g; simp at g; omega), hxc]
    | [v], h, hv =>
      have hs : setCells x j [v] = v := by cases x <;> first | rfl | exact absurd ⟨_, rfl⟩ hx
      rw [hs]
      have hj : j = 0 := by simp at h; omega
      subst hj
      have hvc : v.cells = [v] := by
        simp at hv
        cases v <;> first | rfl | simp [AV.ok] at hv
      refine ⟨by simp [hvc], fun i => ?_⟩
      rw [hvc]
      match i with
      | 0 => simp
      | i + 1 => simp
    | a :: b :: rest, h, _ => simp at h; omega

theorem store_sound (hi : Inv B0 w0 I H L w) {a x : AV} {va vx : Value} (ha : Rep I L a va) (hx : Rep I L x vx) {T : TypeId} {H' : List MB} (h : evStore P H T a x = some H') :
    ∃ w' L', (Instr.storeAt T va vx).run P w = .ok () w' ∧ Inv B0 w0 I H' L' w' ∧ Ext I L I L' := by
  unfold evStore at h
  split at h
  · rename_i id tot i j
    split at h
    · rename_i k els z hrow
      split at h
      · rename_i hc
        obtain ⟨c1, c2⟩ := hc
        split at h
        · rename_i y s hy hs
          split at h
          · rename_i hd
            obtain ⟨d1, d2, d3⟩ := hd
            simp at h; subst h
            obtain ⟨l, hl, hb⟩ := hi.row hrow
            cases ha with
            | rf _ _ _ _ l2 b o hL ht hv =>
              rw [hl] at hL; obtain rfl := Option.some.inj hL
              obtain ⟨v1, v2, v3⟩ := hv (by rw [hb.ht]; exact c1.symm)
              subst v2; subst v3
              have hcell := repCells_of hx d3
              have hsz : vx.cells.size = s := by rw [hcell.1]; exact d1
              obtain ⟨cs, T0, f1, f2, f3, f4⟩ := hb.blk
              have hk := hb.hk
              have hi' : i < els.length := (List.getElem?_eq_some_iff.1 hy).1
              have hm : (i - l.sh + 1) * k ≤ (els.length - l.sh) * k := Nat.mul_le_mul_right k (by omega)
              rw [Nat.add_mul] at hm
              have hfit := hb.fit
              have hyk := hb.wid y (List.mem_of_getElem? hy)
              have hst := run_storeCells_at (P := P) l.b (l.o + (i - l.sh) * k + j) T0 vx.cells.toList 0 cs w f1 (by simp [hsz]; omega)
                (fun v hv => by
                  obtain ⟨q, hq⟩ := List.getElem?_of_mem hv
                  simp at hq
                  have hlt : q < vx.cells.size := by
                    rcases Nat.lt_or_ge q vx.cells.size with g | g
                    · exact g
                    · simp [Array.getElem?_eq_none g] at hq
                  have := hcell.2.1 q hlt
                  unfold scal at this
                  simpa [Array.getD_eq_getD_getElem?, hq] using this)
              generalize hcs' : (cs.toList.take (l.o + (i - l.sh) * k + j + 0) ++ vx.cells.toList ++ cs.toList.drop (l.o + (i - l.sh) * k + j + 0 + vx.cells.toList.length)).toArray = cs' at hst
              have hget : ∀ c, cs'[c]? = if l.o + (i - l.sh) * k + j ≤ c ∧ c < l.o + (i - l.sh) * k + j + s then vx.cells[c - (l.o + (i - l.sh) * k + j)]? else cs[c]? := by
                intro c
                rw [← hcs']
                simp only [List.getElem?_toArray, Nat.add_zero]
                have hl1 : (cs.toList.take (l.o + (i - l.sh) * k + j)).length = l.o + (i - l.sh) * k + j := by simp; omega
                by_cases g1 : c < l.o + (i - l.sh) * k + j
                · rw [List.append_assoc, List.getElem?_append_left (by rw [hl1]; exact g1), List.getElem?_take, if_pos g1, if_neg (by omega)]; simp
                · rw [List.append_assoc, List.getElem?_append_right (by rw [hl1]; omega), hl1]
                  by_cases g2 : c < l.o + (i - l.sh) * k + j + s
                  · rw [List.getElem?_append_left (by simp [hsz]; omega), if_pos (by omega)]; simp
                  · rw [List.getElem?_append_right (by simp [hsz]; omega), List.getElem?_drop, if_neg (by omega)]
                    simp [hsz]; congr 1; omega
              have hcsz : cs'.size = cs.size := by
                rw [← hcs']; simp [hsz]; omega
              have hset := setCells_get (x := y) (j := j) (vs := x.cells) (by rw [hyk, d1]; exact d2) d3
              have hwid : ∀ q ∈ els.set i (setCells y j x.cells), q.cells.length = k := by
                intro q hq
                rcases List.mem_or_eq_of_mem_set hq with g | g
                · exact hb.wid q g
                · rw [g, hset.1]; exact hyk
              have hlset : L.set id l = L := by
                apply List.ext_getElem?
                intro q
                by_cases e : id = q
                · subst e; rw [List.getElem?_set_self (List.getElem?_eq_some_iff.1 hl).1, hl]
                · rw [List.getElem?_set_ne e]
              have hw := hi.write (getRow_eq hrow) hl (els.set i (setCells y j x.cells)) l cs' f1 hcsz hk (by simp [hb.ht]) rfl rfl rfl rfl (by simp) hwid (by simpa using hfit)
                (fun c hc => by
                  rw [hget, if_neg]
                  intro g
                  have : (z - l.sh) * k ≤ (i - l.sh) * k := Nat.mul_le_mul_right k (by omega)
                  omega)
                (fun i' j' q r g1 g2 g3 => by
                  rw [hlset]
                  rw [hget]
                  by_cases e : i = i'
                  · subst e
                    rw [List.getElem?_set_self hi'] at g1
                    obtain rfl := Option.some.inj g1
                    rw [hset.2] at g2
                    by_cases g : j ≤ j' ∧ j' < j + x.cells.length
                    · rw [if_pos g] at g2
                      rw [if_pos (by omega)]
                      have hlt : j' - j < vx.cells.size := by omega
                      have e1 : l.o + (i - l.sh) * k + j' - (l.o + (i - l.sh) * k + j) = j' - j := by omega
                      have h1 := hcell.2.2 _ r g2
                      have h2 := hcell.2.1 _ hlt
                      rw [e1]
                      refine ⟨vx.cells[j' - j], by simp [hlt], ?_, ?_⟩
                      · simpa [Array.getD_eq_getD_getElem?, hlt] using h2
                      · simpa [Array.getD_eq_getD_getElem?, hlt] using h1
                    · rw [if_neg g] at g2
                      rw [if_neg (by omega)]
                      exact f3 i j' y r hy g2 v1
                  · rw [List.getElem?_set_ne e] at g1
                    have hj' : j' < k := by rw [← hb.wid q (List.mem_of_getElem? g1)]; exact (List.getElem?_eq_some_iff.1 g2).1
                    have hap := apart_rows (s := k) (i := i - l.sh) (i' := i' - l.sh) hj' (by omega)
                    rw [if_neg (by omega)]
                    exact f3 i' j' q r g1 g2 g3)
              refine ⟨_, _, ?_, hw.1, hw.2⟩
              unfold Instr.storeAt
              simp only [Sem.run_bind, Instr.sureAddr, Sem.run_pure, Result.andThen_ok, storeVar, tySz_run hs, Sem.run_ite]
              rw [if_neg (by simp [hsz])]
              rw [← hk] at hst
              exact hst
          · simp at h
        · simp at h
      · simp at h
    · simp at h
  · simp at h

end Go.Ev
