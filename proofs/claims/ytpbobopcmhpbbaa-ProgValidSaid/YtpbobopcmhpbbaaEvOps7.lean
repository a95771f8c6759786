/- append, continued. -/
import Derived.Test.YtpbobopcmhpbbaaEvOps6
set_option linter.unusedVariables false
set_option linter.unusedSimpArgs false
namespace Go.Ev
open Go.RowKit

variable {P : Program} {B0 : Nat} {w0 : Base} {w : World} {I : Imm} {H : List MB} {L : List Lay}

theorem tyNotInt_eq {T : TypeId} (h : tyNotInt P T = true) : ∃ d, P.underlying T = some d ∧ ∀ k, d ≠ .int k := by
  unfold tyNotInt at h
  cases hu : P.underlying T with
  | none => rw [hu] at h; simp at h
  | some d => rw [hu] at h; exact ⟨d, rfl, fun k e => by subst e; simp at h⟩

theorem zeroCells_size (z : Array Value) (n : Nat) : (Builtin.zeroCells z n).size = n * z.size := by simp [Builtin.zeroCells]

/-- The run of append, its two ways. -/
theorem append_run {sT xT e : TypeId} {ty : TypeId} {k by_ : Nat} {ze : AV} {s x : Value} {m : Nat} {base : Option Addr} {sLen sCap : Nat} {new : Array Value}
    (he : tyElem P sT = some e) (hxT : tyNotInt P xT = true) (hk : tySz P e = some k) (hby : tyBytes P e = some by_) (hze : tyZero P e = some ze) (hzl : ze.cells.length = k)
    (hs : s = .slice base sLen sCap) (hlen : (Builtin.lenOf x).run P w = .ok m w) :
    (sLen + m ≤ sCap → (Builtin.firstCells k m x).run P w = .ok new w → (Builtin.append_ #[sT, xT] ty #[s, x]).run P w =
      match base with
      | some a => ((storeCells (a.add (sLen * k)) new.toList).run P w).andThen fun _ w' => .ok (.slice base (sLen + m) sCap) w'
      | none => .ok (.slice base (sLen + m) sCap) w) ∧
    (sCap < sLen + m → roomFor (sLen + m) by_ = true → ∀ old, (Builtin.firstCells k sLen s).run P w.drew = .ok old w.drew → (Builtin.firstCells k m x).run P w.drew = .ok new w.drew →
      ∃ cap spare, sLen + m ≤ cap ∧ spare.size = (cap - (sLen + m)) * k ∧
        (Builtin.append_ #[sT, xT] ty #[s, x]).run P w = .ok (.slice (some ⟨w.heap.size, 0, none⟩) (sLen + m) cap) (w.drew.alloc (.cells (old ++ new ++ spare) e))) := by
  have hu := tyElem_eq he
  obtain ⟨d, hd, hdi⟩ := tyNotInt_eq hxT
  obtain ⟨inf, hinf, hbyt⟩ := tyBytes_eq hby
  obtain ⟨zv, z1, z2⟩ := tyZero_eq hze
  have hzs : zv.cells.size = k := by rw [← hzl, z2, ofV_len]
  have hti : ∀ w, (typeInfo e).run P w = .ok inf w := fun w => by simp [typeInfo, hinf]
  subst hs
  have hnz : ∀ {α : Type} (a b : Sem α), (match d with | .int _ => a | _ => b) = b := by
    intro α a b
    cases d <;> first | rfl | exact absurd rfl (hdi _)
  have hff : ¬ (false = true) := by decide
  constructor
  · intro hle hnew
    unfold Builtin.append_
    simp only [List.getElem?_toArray, List.getElem?_cons_zero, List.getElem?_cons_succ, Sem.run_bind, run_underlying hu, run_underlying hd, Result.andThen_ok, tySz_run hk, Sem.run_pure]
    cases d <;> first | exact absurd rfl (hdi _) | skip
    all_goals
      rw [if_neg hff]
      simp only [Sem.run_bind, hlen, Result.andThen_ok]
      rw [if_pos hle]
      simp only [Bool.not_false, if_true, Sem.run_bind, hnew, Result.andThen_ok]
      cases base <;> simp only [Sem.run_bind, Sem.run_pure]
  · intro hgt hroom old hold hnew
    obtain ⟨r1, r2, r3⟩ := roomFor_eq hroom
    have hmax : IntKind.i64.max = 9223372036854775807 := by decide
    have h48 : ¬ (Builtin.nextslicecap (sLen + m) sCap * inf.bytes > 2 ^ 48) := by
      have h1 := nextcap_le hgt
      have h2 : Builtin.nextslicecap (sLen + m) sCap * inf.bytes ≤ (2 * (sLen + m) + 192) * inf.bytes := Nat.mul_le_mul_right _ h1
      rw [hbyt] at h2 ⊢
      rw [Nat.add_mul, Nat.mul_assoc] at h2
      have h3 : (2 : Nat) ^ 48 = 281474976710656 := by decide
      rw [h3]
      omega
    have hmx : ¬ (((sLen + m : Nat) : Int) > IntKind.i64.max ∧ (false = true ∨ inf.bytes = 0)) := by
      rw [hmax]; omega
    have hq : Question.forced (.appendCap (sLen + m) sCap e) = false := rfl
    refine ⟨(sLen + m) + (w.tape w.drawn (.appendCap (sLen + m) sCap e)) % (2 ^ 63 - (sLen + m)), Builtin.zeroCells zv.cells ((w.tape w.drawn (.appendCap (sLen + m) sCap e)) % (2 ^ 63 - (sLen + m))), by omega, ?_, ?_⟩
    · rw [zeroCells_size, hzs]; congr 1; omega
    · unfold Builtin.append_
      simp only [List.getElem?_toArray, List.getElem?_cons_zero, List.getElem?_cons_succ, Sem.run_bind, run_underlying hu, run_underlying hd, Result.andThen_ok, tySz_run hk, Sem.run_pure]
      cases d <;> first | exact absurd rfl (hdi _) | skip
      all_goals
        rw [if_neg hff]
        simp only [Sem.run_bind, hlen, Result.andThen_ok]
        rw [if_neg (by omega)]
        simp only [Sem.run_bind, hti, Result.andThen_ok]
        rw [if_neg hmx]
        simp only [Sem.run_bind, hti, Result.andThen_ok]
        rw [if_neg h48]
        simp only [Sem.run_bind, run_choose_drew, hq, Bool.false_eq_true, if_false, Result.andThen_ok, hti, run_askRoom, hold, Bool.not_false, if_true, hnew, z1, newRow, run_newObj_alloc, Sem.run_pure, Question.cut, Nat.add_sub_cancel_left, World.size_drew]


theorem append_sound (hi : Inv B0 w0 I H L w) {sT xT ty : TypeId} {s x : AV} {vs vx : Value} (hs : Rep I L s vs) (hx : Rep I L x vx) {r : AV} {H' : List MB}
    (h : evAppend P H sT xT s x = some (r, H')) :
    ∃ u w' I' L', (Builtin.append_ #[sT, xT] ty #[vs, vx]).run P w = .ok u w' ∧ Inv B0 w0 I' H' L' w' ∧ Ext I L I' L' ∧ Rep I' L' r u := by
  unfold evAppend at h
  split at h
  · rename_i e he hxT
    split at h
    · rename_i k by_ ze hk hby hze
      split at h
      · simp at h
      · rename_i ys hys
        split at h
        · rename_i hcond
          obtain ⟨c1, c2, c3⟩ := hcond
          have hyk : ∀ y ∈ ys, y.cells.length = k := by
            intro y hy
            have := List.all_eq_true.1 c1 y hy
            simp only [Bool.and_eq_true, decide_eq_true_eq] at this
            exact this.1
          obtain ⟨new, n1, n2, n3⟩ := src_run hi hx hys hyk
          obtain ⟨newd, d1, d2, d3⟩ := src_run hi.drew hx hys hyk
          split at h
          · rename_i t xs
            split at h
            · -- nothing is appended
              simp at h; obtain ⟨rfl, rfl⟩ := h
              have hnew0 : new = #[] := by
                have := n3.1
                simp at this
                exact this
              subst hnew0
              generalize hq : AV.sl t xs = q at hs
              cases hs with
              | nilsl t' =>
                have ha := (append_run (P := P) (w := w) (ty := ty) (new := #[]) (base := none) (sLen := 0) (sCap := 0) he hxT hk hby hze c3 rfl n1).1 (by simp) n2
                exact ⟨_, w, I, L, by rw [ha]; rfl, hi, .refl I L, .nilsl t'⟩
              | sl t' xs' b o c k' f hc ht hk' hI hR =>
                have ha := (append_run (P := P) (w := w) (ty := ty) (new := #[]) (base := some ⟨b, o, none⟩) (sLen := xs'.length) (sCap := c) he hxT hk hby hze c3 rfl n1).1 (by simpa using hc) n2
                exact ⟨_, w, I, L, by rw [ha]; rfl, hi, .refl I L, .sl t' xs' b o c k' f hc ht hk' hI hR⟩
              | _ => cases hq
            · rename_i _ hne
              split at h
              · rename_i hg
                obtain ⟨g1, g2, g3⟩ := hg
                subst g1
                simp at h; obtain ⟨rfl, rfl⟩ := h
                have hxk : ∀ y ∈ xs, y.cells.length = k := by
                  intro y hy
                  have := List.all_eq_true.1 g3 y hy
                  simpa using this
                obtain ⟨old, o1, o2, o3⟩ := elems_run (P := P) hi.drew hs (ys := xs) rfl hxk
                have hm : 0 < ys.length := by
                  rcases Nat.eq_zero_or_pos ys.length with g | g
                  · exact absurd (List.length_eq_zero_iff.1 g) hne
                  · exact g
                have hv : ∃ base cap, vs = .slice base xs.length cap ∧ cap = xs.length := by
                  generalize hq : AV.sl true xs = q at hs
                  cases hs with
                  | nilsl t' => simp at hq; obtain ⟨_, rfl⟩ := hq; exact ⟨none, 0, rfl, rfl⟩
                  | sl t' xs' b o c k' f hc ht hk' hI hR =>
                    simp at hq; obtain ⟨rfl, rfl⟩ := hq
                    exact ⟨_, c, rfl, ht rfl⟩
                  | _ => cases hq
                obtain ⟨base, cap, rfl, rfl⟩ := hv
                obtain ⟨cap', spare, p1, p2, p3⟩ := (append_run (P := P) (w := w) (ty := ty) (new := newd) (base := base) (sLen := xs.length) (sCap := xs.length) he hxT hk hby hze c3 rfl n1).2 (by omega) g2 old o2 d2
                have hrow := o3.append d3
                have hn := newRow_sound hi.drew hrow e spare
                refine ⟨_, _, _, _, p3, hn.1, hn.2, ?_⟩
                have hlen : (xs ++ ys).length = xs.length + ys.length := by simp
                refine .ms H.length k _ 0 _ _ w.heap.size 0 cap' (by rw [← hi.len]; exact lay_new L _) (by simp) rfl (by omega) p1 (fun _ => ⟨Nat.le_refl _, rfl, fun _ => by simp, by omega, ?_⟩)
                simp only [Nat.sub_self, Nat.zero_add]
                rw [Array.size_append, hrow.1, p2, hlen, ← Nat.add_mul]
                exact Nat.mul_le_mul_right k (by omega)
              · simp at h
          · rename_i id k' tot off len
            split at h
            · rename_i k'' els z hrow
              split at h
              · rename_i hcc
                obtain ⟨q1, q2, q3, q4⟩ := hcc
                subst q2; subst q3
                obtain ⟨l, hl, hb⟩ := hi.row hrow
                have hm := getRow_eq hrow
                cases hs with
                | ms _ _ _ _ _ l2 b o c hL ht hk2 hl2 hlc hvv =>
                  rw [hl] at hL; obtain rfl := Option.some.inj hL
                  obtain ⟨v1, v2, v3, v4, v5⟩ := hvv (by rw [hb.ht]; exact q1.symm)
                  subst v2
                  split at h
                  · simp at h; obtain ⟨rfl, rfl⟩ := h
                    have hnew0 : new = #[] := by
                      have := n3.1
                      simp at this
                      exact this
                    subst hnew0
                    have ha := (append_run (P := P) (w := w) (ty := ty) (new := #[]) (base := some ⟨l.b, o, none⟩) (sLen := len) (sCap := c) he hxT hk hby hze c3 rfl n1).1 (by simpa using hlc) n2
                    exact ⟨_, w, I, L, by rw [ha]; rfl, hi, .refl I L, .ms id k' tot off len l l.b o c hl ht hk2 hl2 hlc hvv⟩
                  · rename_i _ hne
                    have hmpos : 0 < ys.length := by
                      rcases Nat.eq_zero_or_pos ys.length with g | g
                      · exact absurd (List.length_eq_zero_iff.1 g) hne
                      · exact g
                    split at h
                    · rename_i hz
                      obtain ⟨z1, z2⟩ := hz
                      obtain ⟨cs, T0, f1, f2, f3, f4⟩ := hb.blk
                      have hnsz : new.toList.length = ys.length * k' := by simpa using n3.1
                      have hones : ∀ v ∈ new.toList, v.oneCell' = true := by
                        intro v hv
                        obtain ⟨q, hq⟩ := List.getElem?_of_mem hv
                        have hqlt : q < ys.length * k' := by rw [← hnsz]; exact (List.getElem?_eq_some_iff.1 hq).1
                        have e1 : q / k' < ys.length := Nat.div_lt_of_lt_mul (by rw [Nat.mul_comm]; exact hqlt)
                        have e2 : q % k' < k' := Nat.mod_lt _ c2
                        have hx1 := List.getElem?_eq_getElem e1
                        have hy1 : (ys[q / k']).cells[q % k']? = some _ := List.getElem?_eq_getElem (by rw [hyk _ (List.getElem_mem e1)]; exact e2)
                        have := (n3.2.2 _ _ _ _ hx1 hy1).1
                        have e3 : q / k' * k' + q % k' = q := by rw [Nat.mul_comm]; exact Nat.div_add_mod q k'
                        rw [e3] at this
                        have e4 : new.getD q undef = v := by
                          simp at hq
                          simp [Array.getD_eq_getD_getElem?, hq]
                        rw [e4] at this
                        exact this
                      -- writing in place
                      have inplace : ∀ els' : List AV, len + ys.length ≤ c → off + len + ys.length ≤ els'.length → els'.length ≤ els.length ∨ els'.length = off + len + ys.length → els.length ≤ els'.length →
                          (∀ i, els'[i]? = if i < off + len then els[i]? else if i < off + len + ys.length then ys[i - (off + len)]? else els[i]?) →
                          ∃ u w' I' L', (Builtin.append_ #[sT, xT] ty #[.slice (some ⟨l.b, o, none⟩) len c, vx]).run P w = .ok u w' ∧
                            Inv B0 w0 I' (H.set id (.row k' els' z)) L' w' ∧ Ext I L I' L' ∧ Rep I' L' (.ms id k' els'.length off (len + ys.length)) u := by
                        intro els' hcap h1 h2 h2b h3
                        have v3 := v3 (by omega)
                        have ha := (append_run (P := P) (w := w) (ty := ty) (new := new) (base := some ⟨l.b, o, none⟩) (sLen := len) (sCap := c) he hxT hk hby hze c3 rfl n1).1 hcap n2
                        have hadd : (⟨l.b, o, none⟩ : Addr).add (len * k') = ⟨l.b, o + len * k', none⟩ := Addr.add_lit _ _ _
                        have hpos : o + len * k' = l.o + (off + len - l.sh) * k' := by
                          rw [v3]
                          have : (off + len - l.sh) * k' = (off - l.sh) * k' + len * k' := by rw [← Nat.add_mul]; congr 1; omega
                          omega
                        have hend : l.o + (off + len - l.sh) * k' + ys.length * k' ≤ cs.size := by
                          rw [f2]
                          have : (off - l.sh + c) * k' ≥ (off + len - l.sh) * k' + ys.length * k' := by
                            rw [← Nat.add_mul]; exact Nat.mul_le_mul_right k' (by omega)
                          omega
                        have hst := run_storeCells_at (P := P) l.b (l.o + (off + len - l.sh) * k') T0 new.toList 0 cs w f1 (by rw [hnsz]; omega) hones
                        generalize hcs' : (cs.toList.take (l.o + (off + len - l.sh) * k' + 0) ++ new.toList ++ cs.toList.drop (l.o + (off + len - l.sh) * k' + 0 + new.toList.length)).toArray = cs' at hst
                        have hget : ∀ q, cs'[q]? = if l.o + (off + len - l.sh) * k' ≤ q ∧ q < l.o + (off + len - l.sh) * k' + ys.length * k' then new[q - (l.o + (off + len - l.sh) * k')]? else cs[q]? := by
                          intro q
                          rw [← hcs']
                          simp only [List.getElem?_toArray, Nat.add_zero]
                          have hl1 : (cs.toList.take (l.o + (off + len - l.sh) * k')).length = l.o + (off + len - l.sh) * k' := by simp; omega
                          by_cases g1 : q < l.o + (off + len - l.sh) * k'
                          · rw [List.append_assoc, List.getElem?_append_left (by rw [hl1]; exact g1), List.getElem?_take, if_pos g1, if_neg (by omega)]; simp
                          · rw [List.append_assoc, List.getElem?_append_right (by rw [hl1]; omega), hl1]
                            by_cases g2 : q < l.o + (off + len - l.sh) * k' + ys.length * k'
                            · rw [List.getElem?_append_left (by rw [hnsz]; omega), if_pos (by omega)]; simp
                            · rw [List.getElem?_append_right (by rw [hnsz]; omega), List.getElem?_drop, if_neg (by omega)]
                              simp only [hnsz]
                              rw [← Array.getElem?_toList]
                              congr 1; omega
                        have hcsz : cs'.size = cs.size := by
                          rw [← hcs']
                          simp only [List.size_toArray, List.length_append, List.length_take, List.length_drop, Array.length_toList, Nat.add_zero]
                          have : new.size = ys.length * k' := n3.1
                          omega
                        have hwid : ∀ q ∈ els', q.cells.length = k' := by
                          intro q hq
                          obtain ⟨i, hi'⟩ := List.getElem?_of_mem hq
                          rw [h3 i] at hi'
                          split at hi'
                          · exact hb.wid q (List.mem_of_getElem? hi')
                          · split at hi'
                            · exact hyk q (List.mem_of_getElem? hi')
                            · exact hb.wid q (List.mem_of_getElem? hi')
                        have hsh := hb.hsh
                        have hfit : l.o + (els'.length - l.sh) * k' ≤ l.n := by
                          rcases h2 with g | g
                          · have := hb.fit
                            have : (els'.length - l.sh) * k' ≤ (els.length - l.sh) * k' := Nat.mul_le_mul_right k' (by omega)
                            omega
                          · have : (els'.length - l.sh) * k' ≤ (off - l.sh + c) * k' := Nat.mul_le_mul_right k' (by omega)
                            omega
                        have hw := hi.write hm hl els' { l with tot := els'.length } cs' f1 hcsz hk2 rfl rfl rfl rfl rfl h2b hwid hfit
                          (fun q hq => by
                            rw [hget, if_neg]
                            intro g
                            have : (z - l.sh) * k' ≤ (off + len - l.sh) * k' := Nat.mul_le_mul_right k' (by omega)
                            omega)
                          (fun i j q y g1 g2 g3 => by
                            have hj : j < k' := by rw [← hwid q (List.mem_of_getElem? g1)]; exact (List.getElem?_eq_some_iff.1 g2).1
                            have hxx : Ext I L I (L.set id { l with tot := els'.length }) := by
                              refine ⟨fun _ _ _ h => h, fun id2 l2 hl2' => ?_⟩
                              by_cases e : id = id2
                              · subst e
                                rw [hl] at hl2'; obtain rfl := Option.some.inj hl2'
                                refine ⟨{ l with tot := els'.length }, by rw [List.getElem?_set_self (List.getElem?_eq_some_iff.1 hl).1], rfl, by rw [hb.ht]; exact h2b, fun e => ?_⟩
                                have e : els'.length = l.tot := e
                                cases l; simp_all
                              · exact ⟨l2, by rw [List.getElem?_set_ne e]; exact hl2', rfl, Nat.le_refl _, fun _ => rfl⟩
                            rw [hget]
                            rw [h3 i] at g1
                            by_cases b1 : i < off + len
                            · rw [if_pos b1] at g1
                              have := Nat.mul_le_mul_right k' (show i - l.sh + 1 ≤ off + len - l.sh by omega)
                              rw [Nat.add_mul] at this
                              rw [if_neg (by omega)]
                              obtain ⟨v, a1, a2, a3⟩ := f3 i j q y g1 g2 g3
                              exact ⟨v, a1, a2, a3.mono hxx⟩
                            · rw [if_neg b1] at g1
                              have hsplit : (i - l.sh) * k' = (off + len - l.sh) * k' + (i - (off + len)) * k' := by rw [← Nat.add_mul]; congr 1; omega
                              by_cases b2 : i < off + len + ys.length
                              · rw [if_pos b2] at g1
                                obtain ⟨v, a1, a2, a3⟩ := n3.some g1 g2
                                have := Nat.mul_le_mul_right k' (show i - (off + len) + 1 ≤ ys.length by omega)
                                rw [Nat.add_mul] at this
                                rw [if_pos (by omega)]
                                refine ⟨v, ?_, a2, a3.mono hxx⟩
                                rw [← a1]; congr 1; omega
                              · rw [if_neg b2] at g1
                                have := Nat.mul_le_mul_right k' (show ys.length ≤ i - (off + len) by omega)
                                rw [if_neg (by omega)]
                                obtain ⟨v, a1, a2, a3⟩ := f3 i j q y g1 g2 g3
                                exact ⟨v, a1, a2, a3.mono hxx⟩)
                        refine ⟨.slice (some ⟨l.b, o, none⟩) (len + ys.length) c, _, _, _, ?_, hw.1, hw.2, ?_⟩
                        · rw [ha]
                          simp only [hadd, hpos, hst, Result.andThen_ok]
                        · refine .ms id k' els'.length off (len + ys.length) { l with tot := els'.length } l.b o c (by rw [List.getElem?_set_self (List.getElem?_eq_some_iff.1 hl).1]) (Nat.le_refl _) hk2 (by omega) hcap (fun _ => ⟨v1, rfl, fun _ => v3, by omega, v5⟩)
                      split at h
                      · rename_i hin
                        simp at h; obtain ⟨rfl, rfl⟩ := h
                        have hl' : (els.take (off + len) ++ (ys ++ els.drop (off + len + ys.length))).length = els.length := by simp; omega
                        have := inplace (els.take (off + len) ++ (ys ++ els.drop (off + len + ys.length))) (by omega) (by omega) (by omega) (by omega) (fun i => by
                          by_cases b1 : i < off + len
                          · rw [if_pos b1, List.getElem?_append_left (by simp; omega), List.getElem?_take, if_pos b1]
                          · have ht' : (els.take (off + len)).length = off + len := by simp; omega
                            rw [if_neg b1, List.getElem?_append_right (by omega), ht']
                            by_cases b2 : i < off + len + ys.length
                            · rw [if_pos b2, List.getElem?_append_left (by omega)]
                            · rw [if_neg b2, List.getElem?_append_right (by omega), List.getElem?_drop]
                              congr 1; omega)
                        rw [hl', q1] at this
                        exact this
                      · rename_i hout
                        simp at h; obtain ⟨rfl, rfl⟩ := h
                        have hl' : (els.take (off + len) ++ ys).length = off + len + ys.length := by simp; omega
                        by_cases hcap : len + ys.length ≤ c
                        · have := inplace (els.take (off + len) ++ ys) hcap (by omega) (by omega) (by omega) (fun i => by
                            have ht' : (els.take (off + len)).length = off + len := by simp; omega
                            by_cases b1 : i < off + len
                            · rw [if_pos b1, List.getElem?_append_left (by omega), List.getElem?_take, if_pos b1]
                            · rw [if_neg b1, List.getElem?_append_right (by omega), ht']
                              by_cases b2 : i < off + len + ys.length
                              · rw [if_pos b2]
                              · rw [if_neg b2, List.getElem?_eq_none (by omega), List.getElem?_eq_none (by omega)])
                          rw [hl'] at this
                          exact this
                        · -- new memory
                          have hself : Rep I L (.ms id k' tot off len) (.slice (some ⟨l.b, o, none⟩) len c) := .ms id k' tot off len l l.b o c hl ht hk2 hl2 hlc hvv
                          have helems : elemsOf H (.ms id k' tot off len) = some ((els.drop off).take len) := by
                            simp only [elemsOf, hrow]
                            rw [if_pos ⟨q1, trivial⟩]
                          have hsub : ∀ y ∈ (els.drop off).take len, y.cells.length = k' := by
                            intro y hy
                            exact hb.wid y (List.mem_of_mem_drop (List.mem_of_mem_take hy))
                          have holdlen : ((els.drop off).take len).length = len := by simp; omega
                          obtain ⟨old, o1, o2, o3⟩ := elems_run (P := P) hi.drew hself helems hsub
                          rw [holdlen] at o2
                          obtain ⟨cap', spare, p1, p2, p3⟩ := (append_run (P := P) (w := w) (ty := ty) (new := newd) (base := some ⟨l.b, o, none⟩) (sLen := len) (sCap := c) he hxT hk hby hze c3 rfl n1).2 (by omega) z2 old o2 d2
                          have hrw := o3.append d3
                          have hwid : ∀ q ∈ els.take (off + len) ++ ys, q.cells.length = k' := by
                            intro q hq
                            rcases List.mem_append.1 hq with g | g
                            · exact hb.wid q (List.mem_of_mem_take g)
                            · exact hyk q g
                          have hrsz : (old ++ newd).size = (len + ys.length) * k' := by rw [hrw.1, List.length_append, holdlen]
                          obtain ⟨I', r1, r2⟩ := hi.drew.regrow hm hl (els.take (off + len) ++ ys) off (old ++ newd ++ spare) e (by rw [hl']; omega) (by omega) hwid
                            (by rw [hl', Array.size_append, hrsz]
                                have : (off + len + ys.length - off) * k' = (len + ys.length) * k' := by congr 1; omega
                                omega)
                            (fun i j q y g1 g2 g3 => by
                              have hq : ((els.drop off).take len ++ ys)[i - off]? = some q := by
                                have ht' : (els.take (off + len)).length = off + len := by simp; omega
                                by_cases b1 : i < off + len
                                · rw [List.getElem?_append_left (by omega), List.getElem?_take, if_pos b1] at g1
                                  rw [List.getElem?_append_left (by omega), List.getElem?_take, if_pos (by omega), List.getElem?_drop]
                                  rw [← g1]; congr 1; omega
                                · rw [List.getElem?_append_right (by omega), ht'] at g1
                                  rw [List.getElem?_append_right (by omega), holdlen]
                                  rw [← g1]; congr 1; omega
                              obtain ⟨v, a1, a2, a3⟩ := hrw.some hq g2
                              refine ⟨v, ?_, a2, a3⟩
                              have hlt : (i - off) * k' + j < (old ++ newd).size := by
                                rcases Nat.lt_or_ge ((i - off) * k' + j) (old ++ newd).size with g | g
                                · exact g
                                · rw [Array.getElem?_eq_none g] at a1; simp at a1
                              rw [Array.getElem?_append_left hlt]; exact a1)
                          refine ⟨_, _, _, _, p3, r1, r2, ?_⟩
                          refine .ms id k' _ off _ _ w.heap.size 0 cap' (by rw [List.getElem?_set_self (List.getElem?_eq_some_iff.1 hl).1]) (by simp; omega) rfl (by omega) p1 (fun _ => ⟨Nat.le_refl _, rfl, fun _ => by simp, by omega, ?_⟩)
                          simp only [Nat.sub_self, Nat.zero_add]
                          rw [Array.size_append, hrsz, p2, ← Nat.add_mul]
                          exact Nat.mul_le_mul_right k' (by omega)
                    · simp at h
              · simp at h
            · simp at h
          · simp at h
        · simp at h
    · simp at h
  · simp at h

end Go.Ev
