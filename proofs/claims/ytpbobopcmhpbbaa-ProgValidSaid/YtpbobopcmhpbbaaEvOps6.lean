/- append. -/
import Derived.Test.YtpbobopcmhpbbaaEvOps5
set_option linter.unusedVariables false
set_option linter.unusedSimpArgs false
namespace Go.Ev
open Go.RowKit

variable {P : Program} {B0 : Nat} {w0 : Base} {w : World} {I : Imm} {H : List MB} {L : List Lay}

theorem RowRep.append {k : Nat} {xs ys : List AV} {cs ds : Array Value} (h : RowRep I L k xs cs) (h' : RowRep I L k ys ds) : RowRep I L k (xs ++ ys) (cs ++ ds) := by
  refine ⟨by rw [Array.size_append, h.1, h'.1, List.length_append, Nat.add_mul], fun x hx => ?_, fun i j x y h1 h2 => ?_⟩
  · rcases List.mem_append.1 hx with g | g
    · exact h.2.1 x g
    · exact h'.2.1 x g
  · have hj : j < k := by
      have hm : x ∈ xs ++ ys := List.mem_of_getElem? h1
      have : x.cells.length = k := by
        rcases List.mem_append.1 hm with g | g
        · exact h.2.1 x g
        · exact h'.2.1 x g
      rw [← this]; exact (List.getElem?_eq_some_iff.1 h2).1
    by_cases g : i < xs.length
    · rw [List.getElem?_append_left g] at h1
      have hm : (i + 1) * k ≤ xs.length * k := Nat.mul_le_mul_right k g
      rw [Nat.add_mul] at hm
      have hlt : i * k + j < cs.size := by rw [h.1]; omega
      have e : (cs ++ ds).getD (i * k + j) undef = cs.getD (i * k + j) undef := by
        simp only [Array.getD_eq_getD_getElem?, Array.getElem?_append_left hlt]
      rw [e]; exact h.2.2 i j x y h1 h2
    · rw [List.getElem?_append_right (by omega)] at h1
      have e1 : i * k + j = cs.size + ((i - xs.length) * k + j) := by
        rw [h.1]
        have : i * k = xs.length * k + (i - xs.length) * k := by rw [← Nat.add_mul]; congr 1; omega
        omega
      have e : (cs ++ ds).getD (i * k + j) undef = ds.getD ((i - xs.length) * k + j) undef := by
        simp only [Array.getD_eq_getD_getElem?]
        rw [Array.getElem?_append_right (by omega)]
        congr 2; omega
      rw [e]; exact h'.2.2 _ j x y h1 h2

theorem rowRep_of {k : Nat} {ys : List AV} {b o : Nat} (hk : ∀ x ∈ ys, x.cells.length = k)
    (hc : ∀ i j x y, ys[i]? = some x → x.cells[j]? = some y → ∃ u, w.cell? ⟨b, o + i * k + j, none⟩ = some u ∧ scal u = true ∧ Rep I L y u) :
    ∃ cs, (loadCells ⟨b, o, none⟩ (ys.length * k)).run P w = .ok cs w ∧ RowRep I L k ys cs := by
  have hex : ∀ c, c < ys.length * k → ∃ u, w.cell? ⟨b, o + c, none⟩ = some u := by
    intro c hc'
    have hk0 : 0 < k := by
      rcases Nat.eq_zero_or_pos k with g | g
      · subst g; simp at hc'
      · exact g
    have h1 : c / k < ys.length := Nat.div_lt_of_lt_mul (by rw [Nat.mul_comm]; exact hc')
    have h2 : c % k < k := Nat.mod_lt _ hk0
    have hx := List.getElem?_eq_getElem h1
    have hy : (ys[c / k]).cells[c % k]? = some _ := List.getElem?_eq_getElem (by rw [hk _ (List.getElem_mem h1)]; exact h2)
    obtain ⟨u, e, _⟩ := hc _ _ _ _ hx hy
    refine ⟨u, ?_⟩
    rw [← e]
    have : c = c / k * k + c % k := by rw [Nat.mul_comm]; exact (Nat.div_add_mod c k).symm
    congr 2; omega
  have hrun := run_loadCells (P := P) w ⟨b, o, none⟩ (ys.length * k) (fun c => (w.cell? ⟨b, o + c, none⟩).getD undef) (fun c hc' => by
    obtain ⟨u, e⟩ := hex c hc'
    rw [Addr.add_lit, e]; rfl)
  refine ⟨_, hrun, by simp, hk, fun i j x y h1 h2 => ?_⟩
  obtain ⟨u, e1, e2, e3⟩ := hc i j x y h1 h2
  have hi : i < ys.length := (List.getElem?_eq_some_iff.1 h1).1
  have hj : j < k := by rw [← hk x (List.mem_of_getElem? h1)]; exact (List.getElem?_eq_some_iff.1 h2).1
  have hm : (i + 1) * k ≤ ys.length * k := Nat.mul_le_mul_right k hi
  rw [Nat.add_mul] at hm
  have hlt : i * k + j < ys.length * k := by omega
  have e : (((List.range (ys.length * k)).map fun c => (w.cell? ⟨b, o + c, none⟩).getD undef).toArray).getD (i * k + j) undef = u := by
    simp only [Array.getD_eq_getD_getElem?, List.getElem?_toArray, List.getElem?_map, List.getElem?_range hlt, Option.map_some, Option.getD_some]
    rw [← Nat.add_assoc, e1]; rfl
  rw [e]; exact ⟨e2, e3⟩

theorem elems_run (hi : Inv B0 w0 I H L w) {x : AV} {v : Value} (hr : Rep I L x v) {ys : List AV} (h : elemsOf H x = some ys) {k : Nat} (hk : ∀ y ∈ ys, y.cells.length = k) :
    ∃ cs, (Builtin.lenOf v).run P w = .ok ys.length w ∧ (Builtin.firstCells k ys.length v).run P w = .ok cs w ∧ RowRep I L k ys cs := by
  unfold elemsOf at h
  split at h
  · rename_i t xs
    simp at h; subst h
    generalize hx : AV.sl t xs = x at hr
    cases hr with
    | nilsl t' =>
      simp at hx; obtain ⟨rfl, rfl⟩ := hx
      exact ⟨#[], rfl, rfl, by simp, fun y hy => by simp at hy, fun i j x y h1 => by simp at h1⟩
    | sl t' xs' b o c k' f hc ht hk' hI hR =>
      simp at hx; obtain ⟨rfl, rfl⟩ := hx
      obtain ⟨cs, e1, e2⟩ := rowRep_of (P := P) (w := w) (I := I) (L := L) (b := b) (o := o) hk (fun i j x y h1 h2 => by
        have hm := List.mem_of_getElem? h1
        have hkk : k' = k := by rw [← hk' x hm, hk x hm]
        have := hI i j x y h1 h2
        rw [hkk] at this
        exact ⟨_, hi.imm _ _ _ this.1, this.2, hR i j x y h1 h2⟩)
      exact ⟨cs, rfl, e1, e2⟩
    | _ => cases hx
  · rename_i id k2 tot off len
    split at h
    · rename_i k' els z hrow
      split at h
      · rename_i hc
        obtain ⟨c1, c2⟩ := hc
        simp at h; subst h
        obtain ⟨l, hl, hb⟩ := hi.row hrow
        cases hr with
        | ms _ _ _ _ _ l2 b o c hL ht hk2 hl2 hlc hv =>
          rw [hl] at hL; obtain rfl := Option.some.inj hL
          obtain ⟨v1, v2, v3, v4, v5⟩ := hv (by rw [hb.ht]; exact c1.symm)
          subst v2
          have hlen : ((els.drop off).take len).length = len := by simp; omega
          rw [hlen]
          by_cases h0 : len = 0
          · subst h0
            have hz : (Builtin.firstCells k 0 (.slice (some ⟨l.b, o, none⟩) 0 c)).run P w = .ok #[] w := by
              unfold Builtin.firstCells
              rw [Nat.zero_mul]; rfl
            exact ⟨#[], rfl, hz, by simp, fun y hy => by simp at hy, fun i j x y h1 => by simp at h1⟩
          · have v3 := v3 (by omega)
            have hget : ∀ i x, ((els.drop off).take len)[i]? = some x → els[off + i]? = some x := by
              intro i x hx
              rw [List.getElem?_take] at hx
              split at hx
              · rw [List.getElem?_drop] at hx; exact hx
              · simp at hx
            obtain ⟨cs, e1, e2⟩ := rowRep_of (P := P) (w := w) (I := I) (L := L) (b := l.b) (o := o) hk (fun i j x y h1 h2 => by
              obtain ⟨u, f1, f2, f3⟩ := hb.cell (hget i x h1) h2 (by omega)
              have hm := List.mem_of_getElem? (hget i x h1)
              have hkk : l.k = k := by
                rw [hb.hk, ← hb.wid x hm]; exact hk x (List.mem_of_getElem? h1)
              refine ⟨u, ?_, f2, f3⟩
              have hkq : k' = k := by rw [← hb.hk]; exact hkk
              rw [← f1, v3, ← hk2, hkk, hkq]
              have : (off + i - l.sh) * k = (off - l.sh) * k + i * k := by rw [← Nat.add_mul]; congr 1; omega
              congr 2; omega)
            rw [hlen] at e1
            exact ⟨cs, rfl, e1, e2⟩
      · simp at h
    · simp at h
  · simp at h

theorem src_run (hi : Inv B0 w0 I H L w) {x : AV} {v : Value} (hr : Rep I L x v) {e : TypeId} {ys : List AV} (h : srcElems P H e x = some ys) {k : Nat} (hk : ∀ y ∈ ys, y.cells.length = k) :
    ∃ cs, (Builtin.lenOf v).run P w = .ok ys.length w ∧ (Builtin.firstCells k ys.length v).run P w = .ok cs w ∧ RowRep I L k ys cs := by
  unfold srcElems at h
  split at h
  · rename_i b
    split at h
    · simp at h; subst h
      cases hr
      have hlen : (bytesAV b).length = b.size := by simp [bytesAV]
      refine ⟨(b.extract 0 b.size).data.map fun c => .int .u8 c.toNat, by rw [hlen]; rfl, by rw [hlen]; rfl, ?_, hk, fun i j x y h1 h2 => ?_⟩
      · rw [hlen]
        by_cases h0 : b.size = 0
        · simp [h0]
        · have hk1 : k = 1 := by
            have hm : (bytesAV b)[0]? = some _ := List.getElem?_eq_getElem (by omega)
            have := hk _ (List.mem_of_getElem? hm)
            rw [← this]
            simp [bytesAV, AV.cells]
          subst hk1
          simp
      · have hm := List.mem_of_getElem? h1
        have hx : ∃ c, b.data.toList[i]? = some c ∧ x = .int .u8 c.toNat := by
          simp only [bytesAV, List.getElem?_map, Option.map_eq_some_iff] at h1
          obtain ⟨c, g1, g2⟩ := h1
          exact ⟨c, g1, g2.symm⟩
        obtain ⟨c, g1, rfl⟩ := hx
        have hk1 : k = 1 := by rw [← hk _ hm]; rfl
        subst hk1
        have hj : j = 0 := by
          have := (List.getElem?_eq_some_iff.1 h2).1
          simp [AV.cells] at this; exact this
        subst hj
        simp [AV.cells] at h2; subst h2
        have e1 : ((b.extract 0 b.size).data.map fun c => Value.int .u8 c.toNat).getD (i * 1 + 0) undef = .int .u8 c.toNat := by
          have : b.data[i]? = some c := by simpa using g1
          simp [Array.getD_eq_getD_getElem?, this]
        rw [e1]
        exact ⟨rfl, .int _ _⟩
    · simp at h
  · exact elems_run hi hr h hk

theorem ofV_len (v : Value) : (ofV v).cells.length = v.cells.size := by
  cases v with
  | agg cs => simp [ofV, AV.cells, Value.cells]
  | tuple vs =>
    show (if vs.size = 0 then AV.tup [] else .top).cells.length = _
    split <;> rfl
  | pointer a => cases a <;> rfl
  | map r => cases r <;> rfl
  | slice a n c =>
    match a, n, c with
    | none, 0, 0 => rfl
    | none, 0, c + 1 => rfl
    | none, n + 1, c => rfl
    | some a, n, c => rfl
  | func fn x y =>
    cases fn with
    | func f =>
      show (if x.size = 0 ∧ y.size = 0 then AV.clo f [] else .top).cells.length = _
      split <;> rfl
    | _ => rfl
  | _ => rfl

theorem growBy_le (n : Nat) : ∀ (r c : Nat), c ≤ 2 * n + 192 → Builtin.growBy n r c ≤ 2 * n + 192
  | 0, c, h => h
  | r + 1, c, h => by
    unfold Builtin.growBy
    split
    · exact h
    · exact growBy_le n r _ (by omega)

theorem nextcap_le {n c : Nat} (h : c < n) : Builtin.nextslicecap n c ≤ 2 * n + 192 := by
  unfold Builtin.nextslicecap
  split
  · omega
  · split
    · omega
    · exact growBy_le n 4 c (by omega)

end Go.Ev
