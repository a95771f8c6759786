/- Single operations: make, slicing, len, append. -/
import Derived.Test.YtpbobopcmhpbbaaEvOps4
set_option linter.unusedVariables false
set_option linter.unusedSimpArgs false
namespace Go.Ev
open Go.RowKit

variable {P : Program} {B0 : Nat} {w0 : Base} {w : World} {I : Imm} {H : List MB} {L : List Lay}

theorem roomFor_eq {n b : Nat} (h : roomFor n b = true) : n * b ≤ 35184372088832 ∧ n ≤ 35184372088832 ∧ b ≤ 1048576 := by
  simpa [roomFor] using h

theorem wrap_i64 (n : Int) (h0 : 0 ≤ n) (h1 : n ≤ 35184372088832) : IntKind.i64.wrap n = n := by
  have e : n % 18446744073709551616 = n := Int.emod_eq_of_lt h0 (by omega)
  show (if (true && decide (n % 18446744073709551616 ≥ 9223372036854775808)) = true then n % 18446744073709551616 - 18446744073709551616 else n % 18446744073709551616) = n
  simp only [e, Bool.true_and, decide_eq_true_eq]
  rw [if_neg (by omega)]

theorem split_arr (arr : Array Value) (a b : Nat) (h : a ≤ b) (hb : b = arr.size) : arr = arr.extract 0 a ++ arr.extract a b := by
  subst hb
  rw [Array.extract_append_extract, Nat.min_eq_left (Nat.zero_le _), Nat.max_eq_right h, Array.extract_size]

theorem makeSlice_sound (hi : Inv B0 w0 I H L w) {T : TypeId} {l c : AV} {vl vc : Value} (hl : Rep I L l vl) (hc : Rep I L c vc) {r : AV} {H' : List MB} (h : evMakeSlice P H T l c = some (r, H')) :
    ∃ u w' L', (Instr.makeSlice T vl vc).run P w = .ok u w' ∧ Inv B0 w0 I H' L' w' ∧ Ext I L I L' ∧ Rep I L' r u := by
  unfold evMakeSlice at h
  split at h
  · rename_i e k1 n k2 m he
    cases hl; cases hc
    split at h
    · rename_i k by_ z hk hby hz
      split at h
      · rename_i hcond
        obtain ⟨c1, c2, c3, c4, c5, c6⟩ := hcond
        simp at h
        obtain ⟨rfl, rfl⟩ := h
        obtain ⟨r1, r2, r3⟩ := roomFor_eq c3
        have hu := tyElem_eq he
        obtain ⟨inf, hinf, hbyt⟩ := tyBytes_eq hby
        obtain ⟨v, z1, z2, z3⟩ := zero_cells (I := I) (L := L) hz c6
        have hm : m = (m.toNat : Int) := by omega
        have hn : n = (n.toNat : Int) := by omega
        have hrow := zeros_row (I := I) (L := L) z2 c5 c4 (n := m.toNat)
        have hrown : RowRep I L k (List.replicate n.toNat z) (((Array.range (m.toNat * k)).map fun i => v.cells[i % v.cells.size]!).extract 0 (n.toNat * k)) := by
          have hnm : n.toNat * k ≤ m.toNat * k := Nat.mul_le_mul_right k (by omega)
          have hmin : min n.toNat m.toNat = n.toNat := Nat.min_eq_left (by omega)
          have hmin2 : min (n.toNat * k) (m.toNat * k) = n.toNat * k := Nat.min_eq_left hnm
          refine ⟨by simp [hmin2], fun x hx => by rw [List.eq_of_mem_replicate hx]; exact c5, fun i j x y h1 h2 => ?_⟩
          have hi' : i < n.toNat := by
            have := (List.getElem?_eq_some_iff.1 h1).1
            simpa using this
          have hx : x = z := List.eq_of_mem_replicate (List.mem_of_getElem? h1)
          have hj : j < k := by rw [← c5, ← hx]; exact (List.getElem?_eq_some_iff.1 h2).1
          have hmk : (i + 1) * k ≤ n.toNat * k := Nat.mul_le_mul_right k hi'
          rw [Nat.add_mul] at hmk
          have := hrow.2.2 i j x y (by rw [hx, List.getElem?_replicate, if_pos (by omega)]) h2
          have e1 : (((Array.range (m.toNat * k)).map fun i => v.cells[i % v.cells.size]!).extract 0 (n.toNat * k)).getD (i * k + j) undef =
              ((Array.range (m.toNat * k)).map fun i => v.cells[i % v.cells.size]!).getD (i * k + j) undef := by
            simp only [Array.getD_eq_getD_getElem?, Array.getElem?_extract]
            rw [if_pos (by simp [hmin2]; omega)]
            simp
          rw [e1]; exact this
        have hsplit : ((Array.range (m.toNat * k)).map fun i => v.cells[i % v.cells.size]!) =
            (((Array.range (m.toNat * k)).map fun i => v.cells[i % v.cells.size]!).extract 0 (n.toNat * k)) ++ (((Array.range (m.toNat * k)).map fun i => v.cells[i % v.cells.size]!).extract (n.toNat * k) (m.toNat * k)) := by
          have hnm : n.toNat * k ≤ m.toNat * k := Nat.mul_le_mul_right k (by omega)
          exact split_arr _ _ _ hnm (by simp)
        have hnew := newRow_sound hi hrown e (((Array.range (m.toNat * k)).map fun i => v.cells[i % v.cells.size]!).extract (n.toNat * k) (m.toNat * k))
        rw [← hsplit] at hnew
        simp only [List.length_replicate] at hnew
        refine ⟨.slice (some ⟨w.heap.size, 0, none⟩) n.toNat m.toNat, _, _, ?_, hnew.1, hnew.2, ?_⟩
        · unfold Instr.makeSlice
          have w1 : IntKind.i64.wrap n = n := wrap_i64 n c1 (by omega)
          have w2 : IntKind.i64.wrap m = m := wrap_i64 m (by omega) (by omega)
          have hti : (typeInfo e).run P w = .ok inf w := by simp [typeInfo, hinf]
          have hbm : (inf.bytes : Int) * m ≤ 35184372088832 := by
            rw [hbyt, hm]
            have h := Int.ofNat_le.2 r1
            rw [Int.natCast_mul, Int.mul_comm] at h
            omega
          have t1 : (decide (m < 0) || decide ((inf.bytes : Int) * m > 2 ^ 48)) = false := by
            rw [Bool.or_eq_false_iff]
            exact ⟨decide_eq_false (by omega), decide_eq_false (by
              have : (2 : Int) ^ 48 = 281474976710656 := by decide
              rw [this]; omega)⟩
          simp only [Sem.run_bind, run_underlying hu, Result.andThen_ok, asInt, asIntOf, Sem.run_pure, hti, w1, w2, t1]
          rw [if_neg (by
            have g1 : decide (n < 0) = false := decide_eq_false (by omega)
            have g2 : decide (n > m) = false := decide_eq_false (by omega)
            simp only [Bool.false_or, g1, g2]
            decide)]
          simp only [Sem.run_bind, run_askRoom, Result.andThen_ok, tySz_run hk]
          by_cases h0 : m.toNat * k = 0
          · have e0 : ((Array.range (m.toNat * k)).map fun i => (#[] : Array Value)[i % (#[] : Array Value).size]!) = ((Array.range (m.toNat * k)).map fun i => v.cells[i % v.cells.size]!) := by
              rw [h0]; simp
            simp only [if_pos h0, Sem.run_bind, Sem.run_pure, Result.andThen_ok, e0, newRow, run_newObj_alloc]
          · simp only [if_neg h0, Sem.run_bind, Sem.run_pure, Result.andThen_ok, z1, newRow, run_newObj_alloc]
        · refine .ms H.length k n.toNat 0 n.toNat _ w.heap.size 0 m.toNat (by rw [← hi.len]; exact lay_new L _) (Nat.le_refl _) rfl (by omega) (by omega) (fun _ => ⟨Nat.le_refl _, rfl, by simp, by omega, ?_⟩)
          simp
      · simp at h
    · simp at h
  · simp at h

theorem bnd_run {x : AV} {v : Value} (hx : Rep I L x v) {y r : Nat} (h : bnd x y = some r) (c : BoundsCode) (w : World) : (Instr.sliceBound v y c).run P w = .ok r w ∧ r ≤ y := by
  unfold bnd at h
  split at h
  · rename_i k n
    cases hx
    split at h
    · rename_i hc
      simp at h; subst h
      refine ⟨?_, by omega⟩
      unfold Instr.sliceBound
      simp only [Sem.run_bind, asIntOf, Sem.run_pure, Result.andThen_ok]
      rw [if_pos hc]; rfl
    · simp at h
  · simp at h

/-- The two bounds of a slice expression. -/
theorem bounds_run {ρ : Operand → AV} {ρc : Operand → Value} (hρ : ∀ x, Rep I L (ρ x) (ρc x)) {lo hi : Option Operand} {len cap hh ll : Nat} {isS : Bool} (hlc : len ≤ cap)
    (h1 : bndO (hi.map ρ) len len = some hh) (h2 : bndO (lo.map ρ) hh 0 = some ll) (w : World) :
    (Instr.sliceBounds isS len cap (lo.map ρc) (hi.map ρc) none).run P w = .ok (ll, hh, cap) w ∧ ll ≤ hh ∧ hh ≤ len := by
  have hb : ∀ (x : Operand) (y y' r : Nat) (c : BoundsCode), y ≤ y' → bnd (ρ x) y = some r → (Instr.sliceBound (ρc x) y' c).run P w = .ok r w ∧ r ≤ y := by
    intro x y y' r c hy hr
    have h3 : bnd (ρ x) y' = some r := by
      unfold bnd at hr ⊢
      split at hr
      · split at hr
        · rename_i g; rw [if_pos (by omega)]; exact hr
        · simp at hr
      · simp at hr
    refine ⟨(bnd_run (hρ x) h3 c w).1, (bnd_run (P := P) (hρ x) hr c w).2⟩
  cases hi with
  | none =>
    simp [bndO] at h1; subst h1
    cases lo with
    | none =>
      simp [bndO] at h2; subst h2
      exact ⟨by unfold Instr.sliceBounds; simp, Nat.zero_le _, Nat.le_refl _⟩
    | some x =>
      simp only [Option.map_some, bndO] at h2
      obtain ⟨g1, g2⟩ := hb x _ _ _ (if (none : Option Value).isSome then .slice3C else .sliceB) (Nat.le_refl _) h2
      exact ⟨by unfold Instr.sliceBounds; simp at g1; simp [g1], g2, Nat.le_refl _⟩
  | some y =>
    simp only [Option.map_some, bndO] at h1
    obtain ⟨f1, f2⟩ := hb y _ cap _ (if isS then .sliceAcap else .sliceAlen) hlc h1
    cases lo with
    | none =>
      simp [bndO] at h2; subst h2
      exact ⟨by unfold Instr.sliceBounds; simp [f1], Nat.zero_le _, f2⟩
    | some x =>
      simp only [Option.map_some, bndO] at h2
      obtain ⟨g1, g2⟩ := hb x _ _ _ (if (none : Option Value).isSome then .slice3C else .sliceB) (Nat.le_refl _) h2
      exact ⟨by unfold Instr.sliceBounds; simp at g1; simp [f1, g1], g2, f2⟩

theorem slice_sound {T : TypeId} {xo : Operand} {lo hi mx : Option Operand} {ρ : Operand → AV} {ρc : Operand → Value} (hρ : ∀ x, Rep I L (ρ x) (ρc x)) {r : AV} {H' : List MB}
    (h : evSlice P H T (ρ xo) (lo.map ρ) (hi.map ρ) (mx.map ρ) = some (r, H')) :
    ∃ u, (Instr.sliceAt T (ρc xo) (lo.map ρc) (hi.map ρc) (mx.map ρc)).run P w = .ok u w ∧ H' = H ∧ Rep I L r u := by
  have hx := hρ xo
  have hat : ∀ d, P.underlying T = some d → (∀ n e, d ≠ .array n e) → (Instr.sliceAt T (ρc xo) (lo.map ρc) (hi.map ρc) (mx.map ρc)).run P w = (Instr.slice T (ρc xo) (lo.map ρc) (hi.map ρc) (mx.map ρc)).run P w := by
    intro d hd hn
    unfold Instr.sliceAt
    simp only [Sem.run_bind, run_underlying hd, Result.andThen_ok]
  unfold evSlice at h
  split at h
  · rename_i s hs hmx
    cases mx with
    | some q => simp at hmx
    | none =>
      rw [hs] at hx
      split at h
      · rename_i hstr
        have hu := tyStr_eq hstr
        split at h
        · rename_i hh h1
          split at h
          · rename_i ll h2
            simp at h; obtain ⟨rfl, rfl⟩ := h
            rw [hat _ hu (fun _ _ h => by cases h)]
            generalize hv : ρc xo = v at hx
            cases hx
            obtain ⟨b1, _⟩ := bounds_run (P := P) (isS := false) hρ (Nat.le_refl _) h1 h2 w
            refine ⟨_, ?_, rfl, .str _⟩
            unfold Instr.slice
            simp only [Sem.run_bind, run_underlying hu, Result.andThen_ok]
            simp [b1]
          · simp at h
        · simp at h
      · simp at h
  · rename_i t xs hs hmx
    cases mx with
    | some q => simp at hmx
    | none =>
      rw [hs] at hx
      split at h
      · rename_i e he
        have hu := tyElem_eq he
        split at h
        · rename_i s hsz
          split at h
          · rename_i hw
            split at h
            · rename_i hh h1
              split at h
              · rename_i ll h2
                simp at h; obtain ⟨rfl, rfl⟩ := h
                rw [hat _ hu (fun _ _ h => by cases h)]
                generalize hv : ρc xo = v at hx
                generalize hxx : AV.sl t xs = x at hx
                cases hx with
                | nilsl t' =>
                  simp at hxx; obtain ⟨rfl, rfl⟩ := hxx
                  obtain ⟨b1, b2, b3⟩ := bounds_run (P := P) (isS := true) hρ (Nat.le_refl _) h1 h2 w
                  simp at b1 b3
                  have e1 : hh = 0 := by omega
                  have e2 : ll = 0 := by omega
                  subst e1; subst e2
                  refine ⟨.slice none 0 0, ?_, rfl, by simpa using Rep.nilsl _⟩
                  unfold Instr.slice
                  simp only [Sem.run_bind, run_underlying hu, Result.andThen_ok, Option.map_none]
                  simp [b1, tySz_run hsz]
                | sl t' xs' b o c k f hc ht hk hI hR =>
                  simp at hxx; obtain ⟨rfl, rfl⟩ := hxx
                  obtain ⟨b1, b2, b3⟩ := bounds_run (P := P) (isS := true) hρ hc h1 h2 w
                  have hlen : ((xs.take hh).drop ll).length = hh - ll := by simp; omega
                  have hks : ∀ x ∈ xs, x.cells.length = s := by
                    intro x hx
                    have := List.all_eq_true.1 hw x hx
                    simpa using this
                  have hget : ∀ i x, ((xs.take hh).drop ll)[i]? = some x → xs[ll + i]? = some x := by
                    intro i x hx
                    rw [List.getElem?_drop, List.getElem?_take] at hx
                    split at hx
                    · exact hx
                    · simp at hx
                  have haddr : (if c = ll then some (⟨b, o, none⟩ : Addr) else some ((⟨b, o, none⟩ : Addr).add (ll * s))) = some ⟨b, if c = ll then o else o + ll * s, none⟩ := by
                    split
                    · rfl
                    · rw [Addr.add_lit]
                  refine ⟨.slice (some ⟨b, if c = ll then o else o + ll * s, none⟩) (hh - ll) (c - ll), ?_, rfl, ?_⟩
                  · unfold Instr.slice
                    simp only [Sem.run_bind, run_underlying hu, Result.andThen_ok, Option.map_none, b1, tySz_run hsz, Sem.run_pure, Option.map_some]
                    rw [haddr]
                  · rw [← hlen]
                    refine .sl _ _ b _ (c - ll) s (fun i j => f (ll + i) j) (by rw [hlen]; omega) (fun h => ?_) (fun x hx => ?_) (fun i j x y g1 g2 => ?_) (fun i j x y g1 g2 => hR _ j x y (hget i x g1) g2)
                    · simp at h
                      have := ht h.1
                      omega
                    · obtain ⟨i, hi'⟩ := List.getElem?_of_mem hx
                      exact hks x (List.mem_of_getElem? (hget i x hi'))
                    · have hm := List.mem_of_getElem? (hget i x g1)
                      have hkk : k = s := by rw [← hk x hm, hks x hm]
                      have hlt : ll + i < xs.length := (List.getElem?_eq_some_iff.1 (hget i x g1)).1
                      rw [if_neg (by omega)]
                      have := hI (ll + i) j x y (hget i x g1) g2
                      rw [hkk] at this
                      have e1 : o + (ll + i) * s + j = o + ll * s + i * s + j := by rw [Nat.add_mul]; omega
                      rwa [e1] at this
                | _ => cases hxx
              · simp at h
            · simp at h
          · simp at h
        · simp at h
      · simp at h
  · rename_i id k tot off len hs hmx
    cases mx with
    | some q => simp at hmx
    | none =>
      rw [hs] at hx
      split at h
      · rename_i e he
        have hu := tyElem_eq he
        split at h
        · rename_i s hsz
          split at h
          · rename_i hsk
            obtain ⟨rfl, h0⟩ := hsk
            split at h
            · rename_i hh h1
              split at h
              · rename_i ll h2
                simp at h; obtain ⟨rfl, rfl⟩ := h
                rw [hat _ hu (fun _ _ h => by cases h)]
                generalize hv : ρc xo = v at hx
                cases hx with
                | ms _ _ _ _ _ l b o c hL ht hk hl2 hlc hvv =>
                  obtain ⟨b1, b2, b3⟩ := bounds_run (P := P) (isS := true) hρ hlc h1 h2 w
                  have haddr : (if c = ll then some (⟨b, o, none⟩ : Addr) else some ((⟨b, o, none⟩ : Addr).add (ll * s))) = some ⟨b, if c = ll then o else o + ll * s, none⟩ := by
                    split
                    · rfl
                    · rw [Addr.add_lit]
                  refine ⟨.slice (some ⟨b, if c = ll then o else o + ll * s, none⟩) (hh - ll) (c - ll), ?_, rfl, ?_⟩
                  · unfold Instr.slice
                    simp only [Sem.run_bind, run_underlying hu, Result.andThen_ok, Option.map_none, b1, tySz_run hsz, Sem.run_pure, Option.map_some]
                    rw [haddr]
                  · refine .ms id s tot (off + ll) (hh - ll) l b _ (c - ll) hL ht hk (by omega) (by omega) (fun e => ?_)
                    obtain ⟨v1, v2, v3, v4, v5⟩ := hvv e
                    have e1 : off + ll - l.sh + (c - ll) = off - l.sh + c := by omega
                    refine ⟨by omega, v2, fun h0 => ?_, by omega, by rw [e1]; exact v5⟩
                    rw [if_neg (by omega), v3 (by omega)]
                    have e2 : off + ll - l.sh = off - l.sh + ll := by omega
                    rw [e2, Nat.add_mul]; omega
              · simp at h
            · simp at h
          · simp at h
        · simp at h
      · simp at h
  · simp at h

end Go.Ev
