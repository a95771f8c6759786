/- Code, and what a call leaves behind. -/
import Derived.Test.YtpbobopcmhpbbaaL03
import Derived.LoopN
import Derived.Scope
set_option linter.unusedVariables false
set_option linter.unusedSimpArgs false
namespace Go.Ev
open Go.RowKit

variable {P : Program} {cf : CF} {it : It} {mu : List Nat} {m : Cfg} {B0 : Nat} {w0 : Base} {w : World} {I I0 : Imm} {H : List MB} {L L0 : List Lay}

def PostOk (B0 : Nat) (w0 : Base) (I0 : Imm) (L0 : List Lay) (e : EX) (s : St) : Exit → Act → World → Prop
  | .normal, a, w => e = .norm ∧ StOk B0 w0 I0 L0 s a w
  | .exit id, a, w => e = .exit id ∧ StOk B0 w0 I0 L0 s a w
  | .ret, a, w => e = .ret ∧ StOk B0 w0 I0 L0 s a w
  | _, _, _ => False

def ItOk (it : It) : Prop := ∀ b m s r, it b m s = some r → ∃ n, iterN b m n s = some r

theorem StOk.keep {s : St} {a : Act} (h : StOk B0 w0 I0 L0 s a w) (l : Option (List Nat)) : StOk B0 w0 I0 L0 { s with t := keepT l s.t } a w := by
  obtain ⟨I, L, h1, h2, h3, h4⟩ := h
  exact ⟨I, L, h1, h2, h3, h4.sub (keepT_sub l s.t)⟩

theorem StOk.dropSt {s : St} {a : Act} (h : StOk B0 w0 I0 L0 s a w) (l : List Nat) : StOk B0 w0 I0 L0 (dropSt l s) a w := by
  obtain ⟨I, L, h1, h2, h3, h4⟩ := h
  exact ⟨I, L, h1, h2, h3, h4.sub (dropT_sub l s.t)⟩

theorem under_cells (n : Nat) (x : AV) : AV.under n x = true ↔ ∀ c ∈ x.cells, AV.under n c = true := by
  have hL : ∀ l : List AV, AV.underL n l = true ↔ ∀ c ∈ l, AV.under n c = true := by
    intro l
    induction l with
    | nil => simp [AV.underL]
    | cons a l ih => simp [AV.underL, ih]
  cases x with
  | agg cs => simp only [AV.under, AV.cells]; exact hL cs
  | _ => simp [AV.cells]

theorem underL_iff (n : Nat) (l : List AV) : AV.underL n l = true ↔ ∀ c ∈ l, AV.under n c = true := by
  induction l with
  | nil => simp [AV.underL]
  | cons a l ih => simp [AV.underL, ih]

theorem Rep.under {a : AV} {v : Value} (h : Rep I L a v) : AV.under L.length a = true := by
  induction h with
  | sl t xs b o c k f hc ht hk hI hR ih =>
    simp only [AV.under]
    rw [underL_iff]
    intro x hx
    rw [under_cells]
    intro y hy
    obtain ⟨i, hi⟩ := List.getElem?_of_mem hx
    obtain ⟨j, hj⟩ := List.getElem?_of_mem hy
    exact ih i j x y hi hj
  | pt cs b o f hI hR ih =>
    simp only [AV.under]
    rw [underL_iff]
    intro y hy
    obtain ⟨j, hj⟩ := List.getElem?_of_mem hy
    exact ih j y hj
  | rf id tot i j l b o hL ht hv => simp only [AV.under]; simp; exact (List.getElem?_eq_some_iff.1 hL).1
  | ms id k tot off len l b o c hL ht hk hl hc hv => simp only [AV.under]; simp; exact (List.getElem?_eq_some_iff.1 hL).1
  | msn id k l hL hk => simp only [AV.under]; simp; exact (List.getElem?_eq_some_iff.1 hL).1
  | psn l c => rfl
  | pss b o l c => rfl
  | clo f cs ws hn hR ih =>
    simp only [AV.under]
    rw [underL_iff]
    intro y hy
    obtain ⟨j, hj⟩ := List.getElem?_of_mem hy
    exact ih j y hj
  | agg cs ws hn hs hR ih =>
    simp only [AV.under]
    rw [underL_iff]
    intro y hy
    obtain ⟨j, hj⟩ := List.getElem?_of_mem hy
    exact ih j y hj
  | tup cs ws hn hR ih =>
    simp only [AV.under]
    rw [underL_iff]
    intro y hy
    obtain ⟨j, hj⟩ := List.getElem?_of_mem hy
    exact ih j y hj
  | _ => rfl

theorem Rep.restrict {n : Nat} {a : AV} {v : Value} (h : Rep I L a v) (hu : AV.under n a = true) : Rep I (L.take n) a v := by
  induction h with
  | top v => exact .top v
  | int k n => exact .int k n
  | bool b => exact .bool b
  | str s => exact .str s
  | nilp => exact .nilp
  | nilf => exact .nilf
  | nili => exact .nili
  | nilm => exact .nilm
  | nilsl t => exact .nilsl t
  | sl t xs b o c k f hc ht hk hI hR ih =>
    simp only [AV.under] at hu
    rw [underL_iff] at hu
    refine .sl t xs b o c k f hc ht hk hI (fun i j x y h1 h2 => ih i j x y h1 h2 ?_)
    exact (under_cells n x).1 (hu x (List.mem_of_getElem? h1)) y (List.mem_of_getElem? h2)
  | pt cs b o f hI hR ih =>
    simp only [AV.under] at hu
    rw [underL_iff] at hu
    exact .pt cs b o f hI (fun j y h => ih j y h (hu y (List.mem_of_getElem? h)))
  | rf id tot i j l b o hL ht hv =>
    simp only [AV.under] at hu
    simp at hu
    exact .rf id tot i j l b o (by rw [List.getElem?_take, if_pos hu]; exact hL) ht hv
  | ms id k tot off len l b o c hL ht hk hl hc hv =>
    simp only [AV.under] at hu
    simp at hu
    exact .ms id k tot off len l b o c (by rw [List.getElem?_take, if_pos hu]; exact hL) ht hk hl hc hv
  | psn l c => exact .psn l c
  | pss b o l c => exact .pss b o l c
  | msn id k l hL hk =>
    simp only [AV.under] at hu
    simp at hu
    exact .msn id k l (by rw [List.getElem?_take, if_pos hu]; exact hL) hk
  | clo f cs ws hn hR ih =>
    simp only [AV.under] at hu
    rw [underL_iff] at hu
    exact .clo f cs ws hn (fun j y h => ih j y h (hu y (List.mem_of_getElem? h)))
  | agg cs ws hn hs hR ih =>
    simp only [AV.under] at hu
    rw [underL_iff] at hu
    exact .agg cs ws hn hs (fun j y h => ih j y h (hu y (List.mem_of_getElem? h)))
  | tup cs ws hn hR ih =>
    simp only [AV.under] at hu
    rw [underL_iff] at hu
    exact .tup cs ws hn (fun j y h => ih j y h (hu y (List.mem_of_getElem? h)))

theorem keptOk_spec (n : Nat) : ∀ (xs ys : List MB) (i : Nat) (x y : MB), keptOk n xs ys = true → xs[i]? = some x → ys[i]? = some y → y = x ∨ MB.under n y = true
  | [], _, i, x, y, _, h, _ => by simp at h
  | _ :: _, [], i, x, y, _, _, h => by simp at h
  | a :: xs, b :: ys, i, x, y, h, h1, h2 => by
    simp only [keptOk, Bool.and_eq_true, Bool.or_eq_true] at h
    match i, h1, h2 with
    | 0, h1, h2 =>
      simp at h1 h2; subst h1; subst h2
      rcases h.1 with g | g
      · exact .inl (MB.eq_of_beq _ _ g)
      · exact .inr g
    | i + 1, h1, h2 => exact keptOk_spec n xs ys i x y h.2 (by simpa using h1) (by simpa using h2)

/-- The blocks from number n on are forgotten. -/
theorem Inv.drop (hi : Inv B0 w0 I H L w) {n : Nat} (hn : n ≤ H.length)
    (hu : ∀ id k els z l, id < n → H[id]? = some (.row k els z) → L[id]? = some l → ∀ (i j : Nat) (x y : AV), els[i]? = some x → x.cells[j]? = some y → l.sh ≤ i → AV.under n y = true) :
    Inv B0 w0 I (H.take n) (L.take n) w := by
  refine ⟨hi.below, hi.base, by simp [hi.len], fun id m l hm hl => ?_, fun i j l l' h1 h2 n1 n2 h3 => ?_, hi.imm, hi.old⟩
  · rw [List.getElem?_take] at hm hl
    split at hm
    · rename_i hid
      rw [if_pos hid] at hl
      have hb := hi.blk id m l hm hl
      cases m with
      | mp es => exact hb
      | row k els z =>
        refine ⟨hb.hk, hb.ht, hb.hsh, hb.hz, hb.hB, hb.wid, hb.fit, fun hn => ?_, hb.free⟩
        obtain ⟨cs, T, f1, f2, f3, f4⟩ := BlkOk.blk hb hn
        refine ⟨cs, T, f1, f2, fun i j x y g1 g2 g3 => ?_, f4⟩
        obtain ⟨v, e1, e2, e3⟩ := f3 i j x y g1 g2 g3
        exact ⟨v, e1, e2, e3.restrict (hu id k els z l hid hm hl i j x y g1 g2 g3)⟩
    · simp at hm
  · rw [List.getElem?_take] at h1 h2
    split at h1
    · split at h2
      · exact hi.inj i j l l' h1 h2 n1 n2 h3
      · simp at h2
    · simp at h1

theorem updT_keys (d : Nat) (v : AV) : ∀ t : Tm, (updT d v t).map (·.1) = t.map (·.1)
  | [] => rfl
  | (k, u) :: t => by
    simp only [updT]
    split
    · rfl
    · simp only [List.map_cons, updT_keys d v t]
theorem updT_mem {d : Nat} {v : AV} : ∀ {t : Tm} {q : Nat × AV}, q ∈ updT d v t → q ∈ t ∨ (q = (d, v) ∧ ∃ u, (d, u) ∈ t)
  | [], q, h => by simp [updT] at h
  | (k, u) :: t, q, h => by
    simp only [updT] at h
    split at h
    · rename_i e
      subst e
      rcases List.mem_cons.1 h with h | h
      · exact .inr ⟨h, u, List.mem_cons_self ..⟩
      · exact .inl (List.mem_cons_of_mem _ h)
    · rcases List.mem_cons.1 h with h | h
      · exact .inl (by rw [h]; exact List.mem_cons_self ..)
      · rcases updT_mem h with h | ⟨h, u', h'⟩
        · exact .inl (List.mem_cons_of_mem _ h)
        · exact .inr ⟨h, u', List.mem_cons_of_mem _ h'⟩
theorem TmOk.upd {n : Nat} {t : Tm} {vs : Array Value} (h : TmOk I L n t vs) {d : Nat} {v : AV} (hv : Rep I L v (vs.getD d undef)) : TmOk I L n (updT d v t) vs := by
  refine ⟨h.1, ?_, fun q hq => ?_⟩
  · have h2 := h.2.1
    unfold Desc at h2 ⊢
    have hk := updT_keys d v t
    have h3 : List.Pairwise (fun a b : Nat => b < a) (t.map (·.1)) := List.pairwise_map.2 h2
    rw [← hk] at h3
    exact List.pairwise_map.1 h3
  · rcases updT_mem hq with hq | ⟨rfl, u, hu⟩
    · exact h.2.2 q hq
    · exact ⟨(h.2.2 _ hu).1, hv⟩

/-- A block's cells, read otherwise. -/
theorem Inv.recell (hi : Inv B0 w0 I H L w) {id k : Nat} {els : List AV} {z : Nat} (hr : getRow H id = some (k, els, z)) (els' : List AV) (hlen : els'.length = els.length)
    (h : ∀ (l : Lay) (i j : Nat) (x y b : AV), L[id]? = some l → els[i]? = some x → els'[i]? = some y → y.cells.length = x.cells.length ∧ (y.cells[j]? = some b → l.sh ≤ i → ∃ a, x.cells[j]? = some a ∧
      ∀ v, w.cell? ⟨l.b, l.o + (i - l.sh) * k + j, none⟩ = some v → Rep I L a v → Rep I L b v)) : Inv B0 w0 I (H.set id (.row k els' z)) L w := by
  have hm := getRow_eq hr
  obtain ⟨l, hl, hb⟩ := hi.row hr
  have hid : id < L.length := (List.getElem?_eq_some_iff.1 hl).1
  refine ⟨hi.below, hi.base, by simp [hi.len], fun id2 m2 l2 hm2 hl2 => ?_, hi.inj, hi.imm, hi.old⟩
  by_cases e : id = id2
  · subst e
    rw [List.getElem?_set_self (List.getElem?_eq_some_iff.1 hm).1] at hm2
    obtain rfl := Option.some.inj hm2
    rw [hl] at hl2; obtain rfl := Option.some.inj hl2
    refine ⟨hb.hk, by rw [hlen]; exact hb.ht, by rw [hlen]; exact hb.hsh, by rw [hlen]; exact hb.hz, hb.hB, fun y hy => ?_, by rw [hlen]; exact hb.fit, fun hn => ?_, hb.free⟩
    · obtain ⟨i, hi'⟩ := List.getElem?_of_mem hy
      have hlt : i < els.length := by rw [← hlen]; exact (List.getElem?_eq_some_iff.1 hi').1
      rw [(h l i 0 _ y .top hl (List.getElem?_eq_getElem hlt) hi').1]
      exact hb.wid _ (List.getElem_mem hlt)
    · obtain ⟨cs, T, f1, f2, f3, f4⟩ := hb.blk hn
      refine ⟨cs, T, f1, f2, fun i j y b g1 g2 g3 => ?_, f4⟩
      have hlt : i < els.length := by rw [← hlen]; exact (List.getElem?_eq_some_iff.1 g1).1
      obtain ⟨a, a1, a2⟩ := (h l i j _ y b hl (List.getElem?_eq_getElem hlt) g1).2 g2 g3
      obtain ⟨v, e1, e2, e3⟩ := f3 i j _ a (List.getElem?_eq_getElem hlt) a1 g3
      exact ⟨v, e1, e2, a2 v (by rw [World.cell_of_heap f1]; exact e1) e3⟩
  · rw [List.getElem?_set_ne e] at hm2
    exact hi.blk id2 m2 l2 hm2 hl2

/-- An empty slice, as one over a block of our own without memory. -/
theorem nil_phantom {v : Value} (hr : Rep I L (.sl true []) v) (k : Nat) : ∃ b, Rep I (L ++ [⟨k, 0, b, 0, 0, 0⟩]) (.ms L.length k 0 0 0) v := by
  generalize hx : AV.sl true [] = x at hr
  cases hr with
  | nilsl t => exact ⟨0, .msn _ _ _ (by simp; rfl) rfl⟩
  | sl t xs b o c k' f hc ht hk hI hR =>
    simp at hx
    obtain ⟨rfl, rfl⟩ := hx
    have hc0 : c = 0 := ht rfl
    subst hc0
    refine ⟨b, ?_⟩
    have := Rep.ms (I := I) (L := L ++ [⟨k, 0, b, 0, 0, 0⟩]) L.length k 0 0 0 ⟨k, 0, b, 0, 0, 0⟩ b o 0 (by simp) (Nat.le_refl _) rfl (Nat.le_refl _) (Nat.le_refl _) (fun _ => ⟨Nat.le_refl _, rfl, fun h => absurd rfl h, Nat.le_refl _, by simp⟩)
    exact this
  | _ => cases hx

theorem setCells_one (x u : AV) (j : Nat) (hj : j < x.cells.length) (hu : u.cells = [u]) : (setCells x j [u]).cells.length = x.cells.length ∧ ∀ i, (setCells x j [u]).cells[i]? = if i = j then some u else x.cells[i]? := by
  by_cases hx : ∃ cs, x = .agg cs
  · obtain ⟨cs, rfl⟩ := hx
    simp only [AV.cells] at hj
    refine ⟨by simp only [setCells, splice, AV.cells, List.length_append, List.length_take, List.length_drop, List.length_singleton]; omega, fun i => ?_⟩
    simp only [setCells, splice, AV.cells]
    have ht : (cs.take j).length = j := by simp; omega
    by_cases h1 : i < j
    · rw [List.getElem?_append_left (by omega), List.getElem?_take, if_pos h1, if_neg (by omega)]
    · rw [List.getElem?_append_right (by omega), ht]
      by_cases h2 : i = j
      · subst h2; simp
      · rw [if_neg h2, List.getElem?_append_right (by simp; omega), List.getElem?_drop]
        congr 1; simp; omega
  · have hxc : x.cells = [x] := by
      cases x <;> first | rfl | exact absurd ⟨_, rfl⟩ hx
    have hs : setCells x j [u] = u := by cases x <;> first | rfl | exact absurd ⟨_, rfl⟩ hx
    rw [hs, hu, hxc]
    rw [hxc] at hj
    simp at hj
    subst hj
    refine ⟨rfl, fun i => ?_⟩
    match i with
    | 0 => rfl
    | i + 1 => simp

theorem StOk.frzB {s : St} {a : Act} (h : StOk B0 w0 I0 L0 s a w) (id : Nat) : StOk B0 w0 I0 L0 (frzB s id) a w := by
  obtain ⟨I, L, h1, h2, h3, h4⟩ := h
  have h0 : StOk B0 w0 I0 L0 s a w := ⟨I, L, h1, h2, h3, h4⟩
  unfold Ev.frzB
  split
  · rename_i k els z hrow
    split
    · rename_i els' H' hf
      split
      · rename_i k' els2 z' hrow'
        obtain ⟨I', f1, f2, f3⟩ := fzs_sound h1 hf
        obtain ⟨l, hl, hb⟩ := h1.row hrow
        obtain ⟨l2, hl2, hb2⟩ := f1.row hrow'
        rw [hl] at hl2; obtain rfl := Option.some.inj hl2
        split
        · rename_i hee
          obtain rfl := AV.eq_of_beqL _ _ hee
          refine ⟨I', L, f1.recell hrow' els' f3.1 (fun l' i j x y b g1 g2 g3 => ?_), h2.trans (f2.ext L), h3, h4.mono (f2.ext L)⟩
          obtain ⟨_, q2⟩ := f3.2 i x y g2 g3
          refine ⟨q2.1, fun g4 _ => ?_⟩
          have hj : j < x.cells.length := by rw [← q2.1]; exact (List.getElem?_eq_some_iff.1 g4).1
          exact ⟨_, List.getElem?_eq_getElem hj, fun v _ hv => q2.2 j _ b (List.getElem?_eq_getElem hj) g4 I' (.refl I') v hv⟩
        · exact h0
      · exact h0
    · exact h0
  · exact h0

theorem StOk.act1 {s : St} {a : Act} (h : StOk B0 w0 I0 L0 s a w) (x : SA) : StOk B0 w0 I0 L0 (act1 s x) a w := by
  obtain ⟨I, L, h1, h2, h3, h4⟩ := h
  have h0 : StOk B0 w0 I0 L0 s a w := ⟨I, L, h1, h2, h3, h4⟩
  cases x with
  | mat d k =>
    simp only [Ev.act1]
    split
    · rename_i hd
      obtain ⟨b, hb⟩ := nil_phantom (h4.at hd) k
      obtain ⟨p1, p2⟩ := h1.phantom k b
      rw [h1.len] at hb
      exact ⟨I, _, p1, h2.trans p2, h3, (h4.mono p2).upd hb⟩
    · exact h0
  | matC d j k =>
    simp only [Ev.act1]
    split
    · rename_i id tot i j0 hd
      split
      · rename_i kk els z hrow
        split
        · rename_i htot
          split
          · rename_i x hx
            split
            · rename_i hc
              have hr := h4.at hd
              obtain ⟨l, hl, hb⟩ := h1.row hrow
              generalize hvv : a.tmps.getD d undef = vv at hr
              cases hr with
              | rf _ _ _ _ l2 b o hL ht hv =>
                rw [hl] at hL; obtain rfl := Option.some.inj hL
                obtain ⟨v1, _, _⟩ := hv (by rw [hb.ht]; exact htot.symm)
                obtain ⟨u, u1, u2, u3⟩ := hb.cell hx hc v1
                obtain ⟨b', hb'⟩ := nil_phantom u3 k
                obtain ⟨p1, p2⟩ := h1.phantom k b'
                rw [h1.len] at hb'
                have hid := (List.getElem?_eq_some_iff.1 (getRow_eq hrow)).1
                have hrow' : getRow (s.h ++ [.row k [] 0]) id = some (kk, els, z) := by
                  unfold getRow
                  rw [List.getElem?_append_left hid, getRow_eq hrow]
                have hj : j < x.cells.length := (List.getElem?_eq_some_iff.1 hc).1
                have hil : i < els.length := (List.getElem?_eq_some_iff.1 hx).1
                have hone := setCells_one x (.ms s.h.length k 0 0 0) j hj rfl
                have hset := p1.recell hrow' (els.set i (setCells x j [.ms s.h.length k 0 0 0])) (by simp) (fun l' i' j' x' y' b'' g1 g2 g3 => by
                  rw [List.getElem?_append_left (List.getElem?_eq_some_iff.1 hl).1, hl] at g1
                  obtain rfl := Option.some.inj g1
                  by_cases e : i = i'
                  · subst e
                    rw [hx] at g2; obtain rfl := Option.some.inj g2
                    rw [List.getElem?_set_self hil] at g3
                    obtain rfl := Option.some.inj g3
                    refine ⟨hone.1, fun g4 g5 => ?_⟩
                    rw [hone.2] at g4
                    by_cases e : j' = j
                    · subst e
                      rw [if_pos rfl] at g4
                      obtain rfl := Option.some.inj g4
                      refine ⟨_, hc, fun v hv1 _ => ?_⟩
                      rw [u1] at hv1
                      obtain rfl := Option.some.inj hv1
                      exact hb'
                    · rw [if_neg e] at g4
                      exact ⟨_, g4, fun v _ hv => hv⟩
                  · rw [List.getElem?_set_ne e, g2] at g3
                    obtain rfl := Option.some.inj g3
                    exact ⟨rfl, fun g4 _ => ⟨_, g4, fun v _ hv => hv⟩⟩)
                rw [List.set_append_left _ _ hid] at hset
                exact ⟨I, _, hset, h2.trans p2, h3, h4.mono p2⟩
            · exact h0
          · exact h0
        · exact h0
      · exact h0
    · exact h0
  | frz d =>
    simp only [Ev.act1]
    split
    · rename_i v hd
      split
      · rename_i v' H' hf
        obtain ⟨I', f1, f2, f3, _⟩ := fz_sound h1 hf
        have h5 := h4.mono (f2.ext L)
        exact ⟨I', L, f1, h2.trans (f2.ext L), h3, h5.upd (f3 I' (.refl I') _ (h5.at hd))⟩
      · exact h0
    · exact h0
  | frzC d =>
    simp only [Ev.act1]
    split
    · exact h0.frzB _
    · exact h0.frzB _
    · exact h0

theorem StOk.actL {a : Act} : ∀ (l : List SA) {s : St}, StOk B0 w0 I0 L0 s a w → StOk B0 w0 I0 L0 (actL l s) a w
  | [], _, h => h
  | x :: l, _, h => StOk.actL l (h.act1 x)

theorem StOk.prepG {s : St} {a : Act} (h : StOk B0 w0 I0 L0 s a w) (m : Msk) (hg : ∀ n, m.gc = some n → L0.length ≤ n) : StOk B0 w0 I0 L0 (prepG m s) a w := by
  have hc := h.keep m.k
  unfold Ev.prepG
  split
  · exact hc
  · rename_i n hn
    split
    · rename_i hu
      rcases Nat.lt_or_ge n s.h.length with hlt | hge
      · obtain ⟨I, L, h1, h2, h3, h4⟩ := hc
        refine ⟨I, L.take n, h1.drop (Nat.le_of_lt hlt) (fun id k els z l hid hm hl i j x y g1 g2 g3 => ?_), ⟨h2.imm, fun id l hl => ?_⟩, h3, h4.1, h4.2.1, fun q hq => ?_⟩
        · have := List.all_eq_true.1 hu.2 (.row k els z) (List.mem_of_getElem? (i := id) (by rw [List.getElem?_take, if_pos hid]; exact hm))
          simp only [MB.under] at this
          exact (under_cells n x).1 ((underL_iff n els).1 this x (List.mem_of_getElem? g1)) y (List.mem_of_getElem? g2)
        · obtain ⟨l', e, r⟩ := h2.lay id l hl
          have := hg n hn
          have := (List.getElem?_eq_some_iff.1 hl).1
          exact ⟨l', by rw [List.getElem?_take, if_pos (by omega)]; exact e, r⟩
        · exact ⟨(h4.2.2 q hq).1, (h4.2.2 q hq).2.restrict ((underL_iff n _).1 hu.1 q.2 (List.mem_map.2 ⟨q, hq, rfl⟩))⟩
      · rw [List.take_of_length_le hge]; exact hc
    · exact hc

theorem StOk.prep {s : St} {a : Act} (h : StOk B0 w0 I0 L0 s a w) (m : Msk) (hg : ∀ n, m.gc = some n → L0.length ≤ n) : StOk B0 w0 I0 L0 (prep m s) a w := (h.actL m.acts).prepG m hg

theorem evCode_sound (hg : ∀ i n, (m.lp i).gc = some n → L0.length ≤ n) (hcf : CfOk P cf) (hit : ItOk it) (hm : P.follows .mixedOrders = true) : ∀ (c : Code) {s s' : St} {e : EX} {a : Act} {w : World},
    evCode P cf it mu m c s = some (e, s') → StOk B0 w0 I0 L0 s a w → c.wp P (PostOk B0 w0 I0 L0 e s') a w
  | .skip, s, s', e, a, w, h, hs => by
    simp [evCode] at h; obtain ⟨rfl, rfl⟩ := h
    exact wp_skip ⟨rfl, hs⟩
  | .label _, s, s', e, a, w, h, hs => by
    simp [evCode] at h; obtain ⟨rfl, rfl⟩ := h
    exact wp_label ⟨rfl, hs⟩
  | .region id ops draw, s, s', e, a, w, h, hs => by
    simp only [evCode] at h
    cases hr : evRegion P cf mu ops draw s with
    | none => rw [hr] at h; simp at h
    | some s1 =>
      rw [hr] at h; simp at h; obtain ⟨rfl, rfl⟩ := h
      exact evRegion_sound hcf hm hr hs (fun a w hs' => ⟨rfl, (hs'.actL _).dropSt _⟩)
  | .seq x y, s, s', e, a, w, h, hs => by
    simp only [evCode] at h
    refine wp_seq ?_
    split at h
    · rename_i s1 h1
      refine wp_mono (evCode_sound hg hcf hit hm x h1 hs) (fun e1 a1 w1 hp => ?_)
      cases e1 with
      | normal => exact evCode_sound hg hcf hit hm y h hp.2
      | exit id => exact absurd hp.1 (by simp)
      | ret => exact absurd hp.1 (by simp)
      | goto l => exact hp.elim
      | panic c => exact hp.elim
      | outgrown => exact hp.elim
    · rename_i r hne
      cases hx : evCode P cf it mu m x s with
      | none => rw [hx] at h; simp at h
      | some q =>
        obtain ⟨e1, s1⟩ := q
        have hn : e1 ≠ .norm := by
          rintro rfl
          exact hne s1 hx
        rw [hx] at h
        have h' : e1 = e ∧ s1 = s' := by
          cases e1 with
          | norm => exact absurd rfl hn
          | exit id => simpa using h
          | ret => simpa using h
        obtain ⟨rfl, rfl⟩ := h'
        refine wp_mono (evCode_sound hg hcf hit hm x hx hs) (fun e2 a1 w1 hp => ?_)
        cases e2 with
        | normal => exact absurd hp.1 hn
        | exit id => exact hp
        | ret => exact hp
        | goto l => exact hp.elim
        | panic c => exact hp.elim
        | outgrown => exact hp.elim
  | .cond c x y, s, s', e, a, w, h, hs => by
    simp only [evCode] at h
    obtain ⟨I, L, i1, i2, i3, i4⟩ := hs
    have hr := ev_rep i4 c
    split at h
    · rename_i hc
      rw [hc] at hr
      generalize hv : a.eval c = v at hr
      cases hr
      exact wp_cond_true hv (evCode_sound hg hcf hit hm x h ⟨I, L, i1, i2, i3, i4⟩)
    · rename_i hc
      rw [hc] at hr
      generalize hv : a.eval c = v at hr
      cases hr
      exact wp_cond_false hv (evCode_sound hg hcf hit hm y h ⟨I, L, i1, i2, i3, i4⟩)
    · simp at h
  | .block id b, s, s', e, a, w, h, hs => by
    simp only [evCode] at h
    refine wp_block ?_
    split at h
    · rename_i id' s1 h1
      refine wp_mono (evCode_sound hg hcf hit hm b h1 hs) (fun e1 a1 w1 hp => ?_)
      cases e1 with
      | normal => exact absurd hp.1 (by simp)
      | exit id2 =>
        obtain ⟨h2, h3⟩ := hp
        simp at h2; subst h2
        show Exit.inBlock id _ (.exit id') a1 w1
        simp only [Exit.inBlock]
        split at h
        · rename_i e2
          simp at h; obtain ⟨rfl, rfl⟩ := h
          rw [if_pos e2]; exact ⟨rfl, h3.dropSt _⟩
        · rename_i e2
          simp at h; obtain ⟨rfl, rfl⟩ := h
          rw [if_neg e2]; exact ⟨rfl, h3⟩
      | ret => exact absurd hp.1 (by simp)
      | goto l => exact hp.elim
      | panic c => exact hp.elim
      | outgrown => exact hp.elim
    · rename_i s1 h1
      simp at h; obtain ⟨rfl, rfl⟩ := h
      refine wp_mono (evCode_sound hg hcf hit hm b h1 hs) (fun e1 a1 w1 hp => ?_)
      cases e1 with
      | normal => exact ⟨rfl, hp.2.dropSt _⟩
      | exit id2 => exact absurd hp.1 (by simp)
      | ret => exact absurd hp.1 (by simp)
      | goto l => exact hp.elim
      | panic c => exact hp.elim
      | outgrown => exact hp.elim
    · rename_i hne hnn
      refine wp_mono (evCode_sound hg hcf hit hm b h hs) (fun e1 a1 w1 hp => ?_)
      cases e1 with
      | normal =>
        obtain ⟨h2, h3⟩ := hp
        subst h2
        exact absurd h (hnn s')
      | exit id2 =>
        obtain ⟨h2, h3⟩ := hp
        subst h2
        exact absurd h (hne id2 s')
      | ret => exact hp
      | goto l => exact hp.elim
      | panic c => exact hp.elim
      | outgrown => exact hp.elim
  | .loop b, s, s', e, a, w, h, hs => by
    simp only [evCode] at h
    obtain ⟨n, hn⟩ := hit _ _ _ _ h
    refine wp_loop_rounds n ?_
    clear h
    induction n generalizing s a w with
    | zero => simp [iterN] at hn
    | succ n ih =>
      simp only [iterN] at hn
      rw [rounds_succ]
      split at hn
      · rename_i s1 h1
        refine wp_mono (evCode_sound hg hcf hit hm b h1 (hs.prep (m.lp (loopId b)) (hg _))) (fun e1 a1 w1 hp => ?_)
        cases e1 with
        | normal => exact ih _ _ _ hp.2 hn
        | exit id => exact absurd hp.1 (by simp)
        | ret => exact absurd hp.1 (by simp)
        | goto l => exact hp.elim
        | panic c => exact hp.elim
        | outgrown => exact hp.elim
      · rename_i hne
        have hen : e ≠ .norm := by
          rintro rfl
          exact hne s' hn
        refine wp_mono (evCode_sound hg hcf hit hm b hn (hs.prep (m.lp (loopId b)) (hg _))) (fun e1 a1 w1 hp => ?_)
        cases e1 with
        | normal => exact absurd hp.1 hen
        | exit id => exact hp
        | ret => exact hp
        | goto l => exact hp.elim
        | panic c => exact hp.elim
        | outgrown => exact hp.elim
  | .scope b, s, s', e, a, w, h, hs => by
    simp only [evCode] at h
    refine wp_scope_straight (wp_mono (evCode_sound hg hcf hit hm b h hs) (fun e1 a1 w1 hp => ?_))
    cases e1 with
    | normal => exact hp
    | exit id => exact hp
    | ret => exact hp
    | goto l => exact hp.elim
    | panic c => exact hp.elim
    | outgrown => exact hp.elim
  | .exit id, s, s', e, a, w, h, hs => by
    simp [evCode] at h; obtain ⟨rfl, rfl⟩ := h
    exact wp_exit ⟨rfl, hs⟩
  | .ret, s, s', e, a, w, h, hs => by
    simp [evCode] at h; obtain ⟨rfl, rfl⟩ := h
    exact wp_ret ⟨rfl, hs⟩
  | .rangeFunc _ _ _ _, s, s', e, a, w, h, hs => by simp [evCode] at h
  | .goto _, s, s', e, a, w, h, hs => by simp [evCode] at h
  | .refuse _, s, s', e, a, w, h, hs => by simp [evCode] at h

/-! What refers to the first n blocks alone. -/

end Go.Ev
namespace Go.Ev
open Go.RowKit

variable {P : Program} {pol : Pol} {cf : CF} {it : It} {B0 : Nat} {w0 : Base} {w : World} {I I0 : Imm} {H : List MB} {L L0 : List Lay}

def ExtOk (P : Program) (pol : Pol) : Prop := ∀ f g, pol.ext f = some g → ∀ args H r H', g args H = some (r, H') → CallSound P f args H r H'

theorem frzArgs_sound (f : Nat) : ∀ (args : List AV) (i : Nat) {I : Imm} {H H1 : List MB} {as : List AV}, Inv B0 w0 I H L w → frzArgs pol f i args H = some (as, H1) →
    ∃ I', Inv B0 w0 I' H1 L w ∧ Grows I I' ∧ as.length = args.length ∧ ∀ (j : Nat) (x y : AV), args[j]? = some x → as[j]? = some y → Later I' L x y
  | [], i, I, H, H1, as, hi, h => by
    simp [frzArgs] at h; obtain ⟨rfl, rfl⟩ := h
    exact ⟨I, hi, .refl I, rfl, fun j x y h => by simp at h⟩
  | x :: xs, i, I, H, H1, as, hi, h => by
    simp only [frzArgs] at h
    split at h
    · rename_i y H2 h2
      split at h
      · rename_i ys H3 h3
        simp at h; obtain ⟨rfl, rfl⟩ := h
        have : ∃ I2, Inv B0 w0 I2 H2 L w ∧ Grows I I2 ∧ Later I2 L x y := by
          split at h2
          · simp at h2; obtain ⟨rfl, rfl⟩ := h2
            exact ⟨I, hi, .refl I, .refl _ _ _⟩
          · obtain ⟨I2, a1, a2, a3, a4⟩ := fz_sound hi h2
            exact ⟨I2, a1, a2, a3⟩
        obtain ⟨I2, a1, a2, a3⟩ := this
        obtain ⟨I3, b1, b2, b3, b4⟩ := frzArgs_sound f xs (i + 1) a1 h3
        refine ⟨I3, b1, a2.trans b2, by simp [b3], fun j u v hu hv => ?_⟩
        match j, hu, hv with
        | 0, hu, hv => simp at hu hv; subst hu; subst hv; exact a3.mono b2
        | j + 1, hu, hv => exact b4 j u v (by simpa using hu) (by simpa using hv)
      · simp at h
    · simp at h

theorem evResults_sound {s : St} {a : Act} (hi : Inv B0 w0 I s.h L w) (hr : TmOk I L s.n s.t a.tmps) {g : ResultVar → Sem Value} (hg1 : ∀ t, g (.tmp t) = pure (a.tmps.getD t undef))
    (hg2 : ∀ b t, g (.cell b t) = do loadVar t (← asAddr (a.tmps.getD b undef))) : ∀ (rs : List ResultVar) {vs : List AV}, evResults P s rs = some vs →
    ∃ us : List Value, (rs.mapM g).run P w = .ok us w ∧ us.length = vs.length ∧ ∀ (i : Nat) (y : AV) (u : Value), vs[i]? = some y → us[i]? = some u → Rep I L y u
  | [], vs, h => by
    simp [evResults] at h; subst h
    exact ⟨[], rfl, rfl, fun i y u h => by simp at h⟩
  | r :: rs, vs, h => by
    simp only [evResults] at h
    split at h
    · rename_i v hv
      split at h
      · rename_i vs' hvs
        simp at h; subst h
        obtain ⟨us, e1, e2, e3⟩ := evResults_sound hi hr hg1 hg2 rs hvs
        have : ∃ u, (g r).run P w = .ok u w ∧ Rep I L v u := by
          cases r with
          | tmp t => exact ⟨a.tmps.getD t undef, by rw [hg1]; rfl, hr.at hv⟩
          | cell b t =>
            simp only [evResult] at hv
            split at hv
            · rename_i p hp
              split at hv
              · rename_i cs hcs
                obtain ⟨b', o, q1, q2⟩ := cellsAt_sound hi (hr.at hp) hcs
                obtain ⟨u, g1, g2⟩ := run_loadVar_of (P := P) q2 hv
                refine ⟨u, ?_, g2⟩
                rw [hg2]
                simp only [q1, asAddr, Sem.run_bind, Sem.run_pure, Result.andThen_ok, g1]
              · simp at hv
            · simp at hv
        obtain ⟨u, g1, g2⟩ := this
        refine ⟨u :: us, ?_, by simp [e2], fun i y u' h1 h2 => ?_⟩
        · simp only [List.mapM_cons, Sem.run_bind, g1, Result.andThen_ok, e1, Sem.run_pure]
        · match i, h1, h2 with
          | 0, h1, h2 => simp at h1 h2; subst h1; subst h2; exact g2
          | i + 1, h1, h2 => exact e3 i y u' (by simpa using h1) (by simpa using h2)
      · simp at h
    · simp at h

theorem results_sound {fn : Func} {s : St} {a : Act} (hi : Inv B0 w0 I s.h L w) (hr : TmOk I L s.n s.t a.tmps) {vs : List AV} (h : evResults P s fn.results.toList = some vs) :
    ∃ v, (results fn a.tmps).run P w = .ok v w ∧ Rep I L (packRes vs) v := by
  unfold results
  generalize hg : (fun (x : ResultVar) => (match x with
    | .tmp t => pure (a.tmps.getD t undef)
    | .cell b t => do loadVar t (← asAddr (a.tmps.getD b undef)) : Sem Value)) = g
  have hg1 : ∀ t, g (.tmp t) = pure (a.tmps.getD t undef) := fun t => by rw [← hg]
  have hg2 : ∀ b t, g (.cell b t) = (do loadVar t (← asAddr (a.tmps.getD b undef)) : Sem Value) := fun b t => by rw [← hg]
  obtain ⟨us, e1, e2, e3⟩ := evResults_sound (P := P) hi hr hg1 hg2 fn.results.toList h
  have hm : ∀ (g' : ResultVar → Sem Value), g' = g → (fn.results.mapM g').run P w = .ok us.toArray w := by
    rintro g' rfl
    rw [← Array.toArray_toList (xs := fn.results), List.mapM_toArray]
    simp only [Sem.run_map, e1, Result.andThen_ok]
  refine ⟨if h : us.toArray.size = 1 then us.toArray[0] else .tuple us.toArray, ?_, ?_⟩
  · rw [Sem.run_bind, hm g rfl]
    rfl
  · match vs, us, e2, e3 with
    | [y], [u], _, e3 => exact e3 0 y u rfl rfl
    | [], [], _, _ => exact .tup [] #[] rfl (fun i y h => by simp at h)
    | y :: y' :: vs, u :: u' :: us, e2, e3 =>
      rw [dif_neg (by simp)]
      refine .tup _ _ (by simp at e2 ⊢; exact e2) (fun i y hy => ?_)
      have hlt : i < (u :: u' :: us).length := by rw [e2]; exact (List.getElem?_eq_some_iff.1 hy).1
      have h3 := e3 i y _ hy (List.getElem?_eq_getElem hlt)
      have e : (u :: u' :: us).toArray.getD i undef = (u :: u' :: us)[i] := by
        rw [Array.getD_eq_getD_getElem?, List.getElem?_toArray, List.getElem?_eq_getElem hlt]; rfl
      rw [e]; exact h3

theorem mark_length (H : List MB) (id n : Nat) : (mark H id n).length = H.length := by
  unfold mark
  split
  · simp
  · rfl

theorem retPol_sound {f : Nat} {I1 I' : Imm} {H1 H' : List MB} {L L' : List Lay} {w w' : World} (h1 : Inv B0 w0 I1 H1 L w) (h2 : Inv B0 w0 I' H' L' w') (hx : Ext I1 L I' L') {r : AV} {v : Value} (hr : Rep I' L' r v)
    {r2 : AV} {H2 : List MB} (h : retPol pol f H1 r H' = some (r2, H2)) : ∃ I2 L2, Inv B0 w0 I2 H2 L2 w' ∧ Ext I1 L I2 L2 ∧ Rep I2 L2 r2 v := by
  have hn1 : L.length = H1.length := h1.len
  have hlen : H1.length ≤ H'.length := by
    rcases Nat.lt_or_ge H'.length H1.length with g | g
    · have hl := List.getElem?_eq_getElem (l := L) (i := H'.length) (by omega)
      obtain ⟨l', e, _⟩ := hx.lay _ _ hl
      have := (List.getElem?_eq_some_iff.1 e).1
      rw [h2.len] at this; omega
    · exact g
  -- forgetting what the call alone has made
  have dropped : ∀ (J : Imm) (K : List MB), Inv B0 w0 J K L' w' → Grows I' J → K.length = H'.length → keptOk H1.length H1 K = true → Inv B0 w0 J (K.take H1.length) (L'.take H1.length) w' ∧ Ext I1 L J (L'.take H1.length) := by
    intro J K hJ hg hKl hk
    have hxJ : Ext I1 L J L' := hx.trans (hg.ext L')
    refine ⟨hJ.drop (by omega) (fun id k els z l hid hm hl i j x y g1 g2 g3 => ?_), hxJ.imm, fun id l hl => ?_⟩
    · have hid1 : id < H1.length := hid
      have hm1 := List.getElem?_eq_getElem hid1
      rcases keptOk_spec _ _ _ id _ _ hk hm1 hm with g | g
      · have hl1 := List.getElem?_eq_getElem (l := L) (i := id) (by omega)
        have hb1 := h1.blk id _ _ hm1 hl1
        rw [← g] at hb1
        obtain ⟨l', e, ek, et, es⟩ := hxJ.lay id _ hl1
        rw [hl] at e; obtain rfl := Option.some.inj e
        have hbJ := hJ.blk id _ _ hm hl
        have hll := es (by rw [hbJ.ht, hb1.ht])
        obtain ⟨cs, T, f1, f2, f3, f4⟩ := BlkOk.blk hb1 (hb1.pos g1 g2 (by rw [← hll]; exact g3))
        obtain ⟨v0, _, _, e3⟩ := f3 i j x y g1 g2 (by rw [← hll]; exact g3)
        have := e3.under
        rwa [hn1] at this
      · simp only [MB.under] at g
        rw [underL_iff] at g
        exact (under_cells _ x).1 (g x (List.mem_of_getElem? g1)) y (List.mem_of_getElem? g2)
    · obtain ⟨l', e, ek, et, es⟩ := hxJ.lay id l hl
      refine ⟨l', ?_, ek, et, es⟩
      rw [List.getElem?_take, if_pos (by rw [← hn1]; exact (List.getElem?_eq_some_iff.1 hl).1)]; exact e
  have freeze : ∀ {r' : AV} {K : List MB}, fz r H' = some (r', K) → AV.under H1.length r' = true → keptOk H1.length H1 K = true → ∃ I2 L2, Inv B0 w0 I2 (K.take H1.length) L2 w' ∧ Ext I1 L I2 L2 ∧ Rep I2 L2 r' v := by
    intro r' K hfz hu hk
    obtain ⟨J, j1, j2, j3, _⟩ := fz_sound h2 hfz
    have hKl : K.length = H'.length := by rw [← j1.len, h2.len]
    obtain ⟨d1, d2⟩ := dropped J K j1 j2 hKl hk
    exact ⟨J, _, d1, d2, (j3 J (.refl J) v (hr.mono (j2.ext L'))).restrict hu⟩
  unfold retPol at h
  split at h
  · simp at h; obtain ⟨rfl, rfl⟩ := h
    exact ⟨I', L', h2, hx, hr⟩
  · split at h
    · rename_i id k tot off len hq
      have hrr : r = .ms id k tot off len := by
        split at hq
        · exact hq
        · cases hq
      subst hrr
      split at h
      · rename_i k' els z hrow
        split at h
        · rename_i hc
          obtain ⟨c1, c2, c3, c4⟩ := hc
          subst c3
          split at h
          · rename_i xs K hfz
            split at h
            · rename_i k'' els'' z' hrow'
              split at h
              · rename_i hd
                obtain ⟨d1, d2, d3, d4⟩ := hd
                simp at h; obtain ⟨rfl, rfl⟩ := h
                obtain ⟨J, j1, j2, j3⟩ := fzs_sound h2 hfz
                have hKl : K.length = H'.length := by rw [← j1.len, h2.len]
                obtain ⟨q1, q2⟩ := dropped J K j1 j2 hKl d2
                obtain ⟨l, hl, hb⟩ := h2.row hrow
                obtain ⟨l2, hl2, hb2⟩ := j1.row hrow'
                rw [hl] at hl2; obtain rfl := Option.some.inj hl2
                have hkk : k'' = k' := by rw [← hb2.hk, hb.hk]
                subst hkk
                have ln0 : (L'.take H1.length).length = H1.length := by simp [h2.len]; omega
                have hTl0 : (K.take H1.length).length = H1.length := by simp; omega
                cases hr with
                | msn _ _ l3 hL hk2 =>
                  have hx0 : xs = [] := List.length_eq_zero_iff.1 d3
                  subst hx0
                  obtain ⟨p1, p2⟩ := q1.phantom k'' 0
                  have hz0 : z' = 0 := by omega
                  subst hz0
                  refine ⟨J, _, by simpa using p1, q2.trans p2, ?_⟩
                  have := Rep.msn (I := J) (L := L'.take H1.length ++ [⟨k'', 0, 0, 0, 0, 0⟩]) H1.length k'' ⟨k'', 0, 0, 0, 0, 0⟩ (by rw [List.getElem?_append_right (by omega), ln0, Nat.sub_self]; rfl) rfl
                  exact this
                | ms _ _ _ _ _ l3 b o c hL ht hk2 hl3 hlc hv =>
                  rw [hl] at hL; obtain rfl := Option.some.inj hL
                  obtain ⟨v1, v2, v3, v4, v5⟩ := hv (by rw [hb.ht]; exact c2.symm)
                  subst v2
                  have hsub : ((els.drop off).take len).length = len := by simp; omega
                  have hoff : ∀ i, off ≤ i → (i - l.sh) * k'' = (off - l.sh) * k'' + (i - off) * k'' := by
                    intro i h
                    rw [← Nat.add_mul]; congr 1; omega
                  have ln : (L'.take H1.length).length = H1.length := by simp [h2.len]; omega
                  have hTl : (K.take H1.length).length = H1.length := by simp; omega
                  have hfitc : l.o + (off - l.sh) * k'' + len * k'' ≤ l.n := by
                    have : (off - l.sh + c) * k'' = (off - l.sh) * k'' + c * k'' := Nat.add_mul _ _ _
                    have : len * k'' ≤ c * k'' := Nat.mul_le_mul_right k'' hlc
                    omega
                  let ln' : Lay := ⟨k'', len, l.b, l.n, l.o + (off - l.sh) * k'', 0⟩
                  have hxx : Ext J (L'.take H1.length) J (L'.take H1.length ++ [ln']) := ext_push _ _ _
                  have hbne : ∀ (i : Nat) (li : Lay), (L'.take H1.length)[i]? = some li → li.n ≠ 0 → l.n ≠ 0 → li.b ≠ l.b := by
                    intro i li hli hn1 hn2 e
                    rw [List.getElem?_take] at hli
                    split at hli
                    · rename_i hlt
                      have := h2.inj i id li l hli hl hn1 hn2 e
                      omega
                    · simp at hli
                  refine ⟨J, L'.take H1.length ++ [ln'], ⟨q1.below, q1.base, by simp [ln, hTl], fun i m li hm hli => ?_, fun i j li lj g1 g2 n1 n2 g3 => ?_, q1.imm, q1.old⟩, q2.trans hxx, ?_⟩
                  · by_cases hi : i < H1.length
                    · rw [List.getElem?_append_left (by omega)] at hm hli
                      exact MbOk.mono hxx (fun _ _ => rfl) (q1.blk i m li hm hli)
                    · have hie : i = H1.length := by
                        have := (List.getElem?_eq_some_iff.1 hli).1
                        simp at this
                        have h3 := h2.len
                        omega
                      subst hie
                      rw [List.getElem?_append_right (by omega), hTl, Nat.sub_self] at hm
                      rw [List.getElem?_append_right (by omega), ln, Nat.sub_self] at hli
                      simp at hm hli
                      subst hm; subst hli
                      refine ⟨rfl, d3.symm, Nat.zero_le _, by omega, hb.hB, fun x hx => ?_, by show l.o + (off - l.sh) * k'' + (xs.length - 0) * k'' ≤ l.n; rw [Nat.sub_zero, d3]; exact hfitc, fun hn => ?_, fun hn q g => ?_⟩
                      · obtain ⟨i, hi⟩ := List.getElem?_of_mem hx
                        obtain ⟨x0, e1, _, e2⟩ := j3.get hi
                        rw [e2.1]
                        exact hb.wid x0 (List.mem_of_mem_drop (List.mem_of_mem_take (List.mem_of_getElem? e1)))
                      · obtain ⟨cs, T, f1, f2, f3, f4⟩ := hb.blk hn
                        obtain ⟨cs2, T2, f12, f22, f32, f42⟩ := hb2.blk hn
                        rw [f1] at f12; simp at f12; obtain ⟨rfl, rfl⟩ := f12
                        refine ⟨cs, T, f1, f2, fun i j x y g1 g2 _ => ?_, fun q g1 g2 => ?_⟩
                        · obtain ⟨x0, e1, _, e2⟩ := j3.get g1
                          have hj : j < x0.cells.length := by rw [← e2.1]; exact (List.getElem?_eq_some_iff.1 g2).1
                          have hx0 : els[off + i]? = some x0 := by
                            rw [List.getElem?_take] at e1
                            split at e1
                            · rw [List.getElem?_drop] at e1; exact e1
                            · simp at e1
                          obtain ⟨u, u1, u2, u3⟩ := f3 (off + i) j x0 _ hx0 (List.getElem?_eq_getElem hj) (by omega)
                          refine ⟨u, ?_, u2, ?_⟩
                          · rw [← u1, hoff (off + i) (by omega)]
                            have : off + i - off = i := by omega
                            rw [this]
                            show cs[l.o + (off - l.sh) * k'' + (i - 0) * k'' + j]? = _
                            rw [Nat.sub_zero]
                            congr 1; omega
                          · have hu := (under_cells H1.length x).1 ((underL_iff _ _).1 d1 x (List.mem_of_getElem? g1)) y (List.mem_of_getElem? g2)
                            exact (((e2.2 j _ y (List.getElem?_eq_getElem hj) g2) J (.refl J) u (u3.mono (j2.ext L'))).restrict hu).mono hxx
                        · have g1 : l.o + (off - l.sh) * k'' ≤ q := g1
                          have g2 : q < l.o + (off - l.sh) * k'' + (z' - off - 0) * k'' := g2
                          show J l.b q = _
                          by_cases hz : off ≤ z'
                          · refine f42 q (by omega) ?_
                            rw [hoff z' hz]
                            rw [Nat.sub_zero] at g2
                            omega
                          · have : z' - off - 0 = 0 := by omega
                            rw [this] at g2; omega
                      · have g : l.o + (off - l.sh) * k'' + (z' - off - 0) * k'' ≤ q := g
                        show J l.b q = none
                        refine hb2.free hn q ?_
                        by_cases hz : off ≤ z'
                        · rw [hoff z' hz]
                          rw [Nat.sub_zero] at g
                          omega
                        · have : (z' - l.sh) * k'' ≤ (off - l.sh) * k'' := Nat.mul_le_mul_right k'' (by omega)
                          omega
                  · have hcase : ∀ (i : Nat) (li : Lay), (L'.take H1.length ++ [ln'])[i]? = some li → (i < H1.length ∧ (L'.take H1.length)[i]? = some li) ∨ (i = H1.length ∧ li = ln') := by
                      intro i li hli
                      by_cases hi : i < H1.length
                      · rw [List.getElem?_append_left (by omega)] at hli
                        exact .inl ⟨hi, hli⟩
                      · rw [List.getElem?_append_right (by omega), ln] at hli
                        have h4 := (List.getElem?_eq_some_iff.1 hli).1
                        simp at h4
                        have hie : i - H1.length = 0 := by omega
                        rw [hie] at hli
                        simp at hli
                        exact .inr ⟨by omega, hli.symm⟩
                    rcases hcase i li g1 with ⟨a1, a2⟩ | ⟨a1, a2⟩
                    · rcases hcase j lj g2 with ⟨b1, b2⟩ | ⟨b1, b2⟩
                      · exact q1.inj i j li lj a2 b2 n1 n2 g3
                      · subst b2
                        exact absurd g3 (hbne i li a2 n1 n2)
                    · rcases hcase j lj g2 with ⟨b1, b2⟩ | ⟨b1, b2⟩
                      · subst a2
                        exact absurd g3.symm (hbne j lj b2 n2 n1)
                      · omega
                  · refine .ms H1.length k'' len 0 len ln' l.b o c (by rw [List.getElem?_append_right (by omega), ln, Nat.sub_self]; rfl) (Nat.le_refl _) rfl (by omega) hlc (fun _ => ⟨Nat.le_refl _, rfl, fun h0 => ?_, by omega, ?_⟩)
                    · show o = l.o + (off - l.sh) * k'' + (0 - 0) * k''
                      rw [v3 h0]; simp
                    · show l.o + (off - l.sh) * k'' + (0 - 0 + c) * k'' ≤ l.n
                      have : (off - l.sh + c) * k'' = (off - l.sh) * k'' + c * k'' := Nat.add_mul _ _ _
                      simp only [Nat.sub_self, Nat.zero_add]
                      omega
              · simp at h
            · simp at h
          · simp at h
        · simp at h
      · simp at h
    · split at h
      · rename_i r' K hfz
        split at h
        · rename_i hc
          simp at h; obtain ⟨rfl, rfl⟩ := h
          exact freeze hfz hc.1 hc.2
        · simp at h
      · simp at h

theorem mskOf_le {k : Nat → Option (List Nat)} {g : Nat → Option Nat} {ac : Nat → List SA} {n l : Nat} (hl : l = n) (i : Nat) : ∀ q, (mskOf k g ac n i).gc = some q → l ≤ q := by
  intro q h
  unfold mskOf at h
  split at h
  · simp at h
  · split at h
    · simp at h; omega
    · simp at h

/-- One call is sound if the calls inside it are. -/
theorem evBody_sound (hext : ExtOk P pol) (hcf : CfOk P cf) (hit : ItOk it) (hm : P.follows .mixedOrders = true) : CfOk P (evBody P pol cf it) := by
  intro f args H r H' h
  unfold evBody at h
  split at h
  · rename_i g hg
    exact hext f g hg args H r H' h
  · split at h
    · simp at h
    · rename_i fn hfn
      split at h
      · simp at h
      · rename_i c hc
        split at h
        · simp at h
        · rename_i hname
          split at h
          · simp at h
          · rename_i as H1 hfrz
            have hrest : ∃ e s vs, (e = .norm ∨ e = .ret) ∧ evCode P cf it (pol.muts f) (cfgOf pol f H1.length) c { n := as.length + (fn.ntmps - as.length), t := initT 0 as [], h := H1 } = some (e, s) ∧
                evResults P s fn.results.toList = some vs ∧ retPol pol f H1 (packRes vs) s.h = some (r, H') := by
              split at h
              · rename_i s hev
                split at h
                · rename_i vs hvs; exact ⟨_, s, vs, .inl rfl, hev, hvs, h⟩
                · simp at h
              · rename_i s hev
                split at h
                · rename_i vs hvs; exact ⟨_, s, vs, .inr rfl, hev, hvs, h⟩
                · simp at h
              · simp at h
            obtain ⟨e, s, vs, he, hev, hvs, hret⟩ := hrest
            refine ⟨fun us w => ?_, fun B0 w0 w I L us hi hus => ?_⟩
            · unfold callFunc
              simp only [Sem.run_bind, run_program, Result.andThen_ok, hfn]
              rw [if_neg (by simpa using hname), if_neg (by simp [hc])]
              rfl
            · obtain ⟨I1, a1, a2, a3, a4⟩ := frzArgs_sound (pol := pol) f args 0 hi hfrz
              refine calls_of_wp hfn hc ?_
              have hs0 : StOk B0 w0 I1 L { n := as.length + (fn.ntmps - as.length), t := initT 0 as [], h := H1 } { tmps := us ++ Array.replicate (fn.ntmps - us.size) undef, defers := [] } w := by
                have hsz : us.size = as.length := by rw [hus.1, a3]
                refine ⟨I1, L, a1, .refl I1 L, rfl, ?_⟩
                refine initT_ok as 0 [] (fun i y hy => ?_) (fun q hq => by cases hq) ⟨by simp [hsz], List.Pairwise.nil, fun q hq => by cases hq⟩
                have hlt := (List.getElem?_eq_some_iff.1 hy).1
                refine ⟨by show 0 + i < as.length + (fn.ntmps - as.length); omega, ?_⟩
                have hxl : i < args.length := by omega
                have := hus.2 i _ (List.getElem?_eq_getElem hxl)
                have h3 := a4 i _ y (List.getElem?_eq_getElem hxl) hy I1 (.refl I1) _ (this.mono (a2.ext L))
                have e1 : (us ++ Array.replicate (fn.ntmps - us.size) undef).getD (0 + i) undef = us.getD i undef := by
                  have hlt2 : i < us.size := by omega
                  rw [Nat.zero_add]
                  simp only [Array.getD_eq_getD_getElem?, Array.getElem?_append_left hlt2]
                rw [e1]; exact h3
              refine wp_mono (evCode_sound (mskOf_le a1.len) hcf hit hm c hev hs0) (fun e1 a' w' hp => ?_)
              have fin : StOk B0 w0 I1 L s a' w' → bodyPost P fn (fun e w' => ∃ v I' L', e = .returned v ∧ Inv B0 w0 I' H' L' w' ∧ Ext I L I' L' ∧ Rep I' L' r v) .ret a' w' := by
                rintro ⟨I2, L2, b1, b2, b3, b4⟩
                obtain ⟨v, g1, g2⟩ := results_sound (fn := fn) b1 b4 hvs
                obtain ⟨I3, L3, c1, c2, c3⟩ := retPol_sound (pol := pol) a1 b1 b2 g2 hret
                exact ⟨b3, v, g1, v, I3, L3, rfl, c1, (a2.ext L).trans c2, c3⟩
              cases e1 with
              | normal => exact fin hp.2
              | ret => exact fin hp.2
              | exit id =>
                rcases he with h | h
                · rw [h] at hp; exact absurd hp.1 (by simp)
                · rw [h] at hp; exact absurd hp.1 (by simp)
              | goto l => exact hp.elim
              | panic c => exact hp.elim
              | outgrown => exact hp.elim

end Go.Ev
namespace Go.Ev
open Go.RowKit

variable {P : Program} {pol : Pol} {cf : CF} {it : It} {B0 : Nat} {w0 : Base} {w w' : World} {I I' : Imm} {H : List MB} {L : List Lay}

theorem Rep.bare {a : AV} {v : Value} (h : Rep I L a v) (hu : AV.under 0 a = true) (L2 : List Lay) : Rep I L2 a v := by
  have h1 : Rep I [] a v := by simpa using h.restrict hu
  exact h1.mono ⟨fun _ _ _ h => h, fun id l h => by simp at h⟩

/-- The caller's blocks behind such a call. -/
theorem Inv.behind (hi : Inv B0 w0 I H L w) {K : List MB} {L' : List Lay} (hj : Inv w.heap.size ⟨w, I⟩ I' K L' w') (hx : ∀ b o v, I b o = some v → I' b o = some v) : Inv B0 w0 I' H L w' := by
  have hx2 : Ext I L I' L := ⟨hx, (Ext.refl I L).lay⟩
  have hb := hj.below
  have h1 : Inv B0 w0 I H L w' := hi.same (hi.below.trans (hb.mono hi.base)) (Nat.le_trans hi.base hj.base) (fun b h => hb.block b h)
  refine ⟨h1.below, h1.base, h1.len, fun id m l hm hl => ?_, h1.inj, hj.imm, fun b o h => ?_⟩
  ·
    exact MbOk.mono hx2 (fun hn c => hj.old l.b c (hi.lay_lt hl hn)) (h1.blk id m l hm hl)
  · have := hi.base
    rw [hj.old b o (by show b < w.heap.size; omega)]
    exact hi.old b o h

theorem frame_sound {f : Nat} {as : List AV} {H1 H' K : List MB} {r0 r : AV} (hu : AV.underL 0 as = true) (hs : CallSound P f as [] r0 K) (hr : rebase H1 (some (r0, K)) = some (r, H')) :
    CallSound P f as H1 r H' := by
  refine ⟨hs.1, fun B0 w0 w I L us hi hus => ?_⟩
  have hi0 : Inv w.heap.size ⟨w, I⟩ I [] [] w := ⟨Below.refl _ _, Nat.le_refl _, rfl, fun id m l h => by simp at h, fun i j l l' h => by simp at h, hi.imm, fun _ _ _ => rfl⟩
  have hus0 : RepL I [] as us := ⟨hus.1, fun i y hy => (hus.2 i y hy).bare ((underL_iff 0 as).1 hu y (List.mem_of_getElem? hy)) []⟩
  refine (hs.2 _ _ w I [] us hi0 hus0).mono ?_
  rintro e w' ⟨v, I', L', rfl, hj, hx, hv⟩
  have hb := hi.behind hj hx.imm
  unfold rebase at hr
  split at hr
  · rename_i q r1 heq
    simp at heq; obtain ⟨rfl, rfl⟩ := heq
    split at hr
    · rename_i hu1
      simp at hr; obtain ⟨rfl, rfl⟩ := hr
      exact ⟨v, I', L, rfl, hb, ⟨hx.imm, (Ext.refl I L).lay⟩, hv.bare hu1 L⟩
    · simp at hr
  · rename_i q k tot off len k' els z heq
    simp at heq; obtain ⟨rfl, rfl⟩ := heq
    split at hr
    · rename_i hu1
      simp at hr; obtain ⟨rfl, rfl⟩ := hr
      have hl1 : L'.length = 1 := by rw [hj.len]; rfl
      obtain ⟨l', hl'⟩ : ∃ l', L' = [l'] := by
        match L', hl1 with
        | [l'], _ => exact ⟨l', rfl⟩
      subst hl'
      have hblk : BlkOk w.heap.size I' [l'] w' k' els z l' := hj.blk 0 _ l' rfl rfl
      have hlb := hblk.hB
      have hxx : Ext I' L I' (L ++ [l']) := ext_push _ _ _
      refine ⟨v, I', L ++ [l'], rfl, ⟨hb.below, hb.base, by simp [hb.len], fun id m l hm hl => ?_, fun i j li lj g1 g2 n1 n2 g3 => ?_, hb.imm, hb.old⟩, (⟨hx.imm, (Ext.refl I L).lay⟩ : Ext I L I' L).trans hxx, ?_⟩
      · by_cases hid : id < L.length
        · rw [List.getElem?_append_left hid] at hl
          rw [List.getElem?_append_left (by rw [← hb.len]; exact hid)] at hm
          exact MbOk.mono hxx (fun _ _ => rfl) (hb.blk id m l hm hl)
        · have hie : id = L.length := by
            have := (List.getElem?_eq_some_iff.1 hl).1
            simp at this; omega
          subst hie
          rw [List.getElem?_append_right (Nat.le_refl _), Nat.sub_self] at hl
          rw [List.getElem?_append_right (by rw [hb.len]; exact Nat.le_refl _), hb.len, Nat.sub_self] at hm
          simp at hm hl
          subst hm; subst hl
          refine ⟨hblk.hk, hblk.ht, hblk.hsh, hblk.hz, fun hn => Nat.le_trans hi.base (hlb hn), hblk.wid, hblk.fit, fun hn => ?_, hblk.free⟩
          obtain ⟨cs, T, f1, f2, f3, f4⟩ := BlkOk.blk hblk hn
          refine ⟨cs, T, f1, f2, fun i j x y g1 g2 g3 => ?_, f4⟩
          obtain ⟨u, u1, u2, u3⟩ := f3 i j x y g1 g2 g3
          refine ⟨u, u1, u2, u3.bare ?_ _⟩
          exact (under_cells 0 x).1 ((underL_iff 0 els).1 hu1 x (List.mem_of_getElem? g1)) y (List.mem_of_getElem? g2)
      · have hcase : ∀ (i : Nat) (li : Lay), (L ++ [l'])[i]? = some li → (L[i]? = some li) ∨ (i = L.length ∧ li = l') := by
          intro i li hli
          by_cases h : i < L.length
          · rw [List.getElem?_append_left h] at hli; exact .inl hli
          · rw [List.getElem?_append_right (by omega)] at hli
            have h4 := (List.getElem?_eq_some_iff.1 hli).1
            simp at h4
            have hie : i - L.length = 0 := by omega
            rw [hie] at hli
            simp at hli
            exact .inr ⟨by omega, hli.symm⟩
        have hne : ∀ (i : Nat) (li : Lay), L[i]? = some li → li.n ≠ 0 → l'.n ≠ 0 → li.b ≠ l'.b := fun i li h hn hn' e => by
          have := hi.lay_lt h hn
          have := hlb hn'
          omega
        rcases hcase i li g1 with a | ⟨a1, a2⟩ <;> rcases hcase j lj g2 with b | ⟨b1, b2⟩
        · exact hb.inj i j li lj a b n1 n2 g3
        · subst b2; exact absurd g3 (hne i li a n1 n2)
        · subst a2; exact absurd g3.symm (hne j lj b n2 n1)
        · omega
      · cases hv with
        | msn _ _ l hL hk =>
          have hll : l' = l := by simpa using hL
          subst hll
          exact .msn _ k l' (by rw [← hb.len]; rw [List.getElem?_append_right (Nat.le_refl _), Nat.sub_self]; rfl) hk
        | ms _ _ _ _ _ l b o c hL ht hk hl hc hv2 =>
          have hll : l' = l := by simpa using hL
          subst hll
          exact .ms _ k tot off len l' b o c (by rw [← hb.len]; rw [List.getElem?_append_right (Nat.le_refl _), Nat.sub_self]; rfl) ht hk hl hc hv2
    · simp at hr
  · simp at hr

theorem evStep_sound (hext : ExtOk P pol) (hcf : CfOk P cf) (hit : ItOk it) (hm : P.follows .mixedOrders = true) : CfOk P (evStep P pol cf it) := by
  have hb := evBody_sound hext hcf hit hm
  intro f args H r H' h
  unfold evStep at h
  split at h
  · split at h
    · rename_i as H1 hz
      split at h
      · rename_i hu
        cases hq : evBody P pol cf it f as [] with
        | none => rw [hq] at h; simp [rebase] at h
        | some q =>
          obtain ⟨r0, K⟩ := q
          rw [hq] at h
          have hs := frame_sound hu (hb f as [] r0 K hq) h
          refine ⟨hs.1, fun B0 w0 w I L us hi hus => ?_⟩
          obtain ⟨I1, a1, a2, a3, a4⟩ := frzArgs_sound (pol := pol) f args 0 hi hz
          have hus1 : RepL I1 L as us := by
            refine ⟨by rw [hus.1, a3], fun i y hy => ?_⟩
            have hlt : i < args.length := by
              have := (List.getElem?_eq_some_iff.1 hy).1; omega
            exact a4 i _ y (List.getElem?_eq_getElem hlt) hy I1 (.refl I1) _ ((hus.2 i _ (List.getElem?_eq_getElem hlt)).mono (a2.ext L))
          refine (hs.2 B0 w0 w I1 L us a1 hus1).mono ?_
          rintro e w' ⟨v, I', L', e1, e2, e3, e4⟩
          exact ⟨v, I', L', e1, e2, (a2.ext L).trans e3, e4⟩
      · simp at h
    · simp at h
  · exact hb f args H r H' h

end Go.Ev
namespace Go.Ev
open Go.RowKit

variable {P : Program} {pol : Pol} {cf cf' : CF} {it : It} {mu : List Nat} {m : Cfg}

theorem iterN_mono {b b' : St → Option (EX × St)} (h : ∀ s r, b s = some r → b' s = some r) (m : Msk) : ∀ (n n' : Nat) (s : St) (r : EX × St), n ≤ n' → iterN b m n s = some r → iterN b' m n' s = some r
  | 0, n', s, r, _, h1 => by simp [iterN] at h1
  | n + 1, 0, s, r, hn, _ => by omega
  | n + 1, n' + 1, s, r, hn, h1 => by
    simp only [iterN] at h1 ⊢
    cases hb : b (prep m s) with
    | none => rw [hb] at h1; simp at h1
    | some q =>
      rw [hb] at h1
      rw [h _ _ hb]
      obtain ⟨e, s'⟩ := q
      cases e with
      | norm => exact iterN_mono h m n n' s' r (by omega) h1
      | exit id => exact h1
      | ret => exact h1

open Classical in
/-- A loop, as many rounds as it takes. -/
noncomputable def itL : It := fun b m s => if h : ∃ r, ∃ n, iterN b m n s = some r then some h.choose else none

theorem itL_some {b : St → Option (EX × St)} {m : Msk} {s : St} {r : EX × St} : itL b m s = some r ↔ ∃ n, iterN b m n s = some r := by
  unfold itL
  constructor
  · intro h
    split at h
    · rename_i hx
      simp at h; subst h
      exact hx.choose_spec
    · simp at h
  · rintro ⟨n, hn⟩
    rw [dif_pos ⟨r, n, hn⟩]
    obtain ⟨n', hn'⟩ := (show ∃ r, ∃ n, iterN b m n s = some r from ⟨r, n, hn⟩).choose_spec
    have h1 := iterN_mono (b := b) (fun _ _ h => h) m n (n + n') s r (by omega) hn
    have h2 := iterN_mono (b := b) (fun _ _ h => h) m n' (n + n') s _ (by omega) hn'
    rw [h1] at h2
    exact h2.symm

theorem itL_ok : ItOk itL := fun _ _ _ _ h => itL_some.1 h

/-- One round of a loop. -/
theorem itL_eq (b : St → Option (EX × St)) (m : Msk) (s : St) : itL b m s = match b (prep m s) with
    | some (.norm, s') => itL b m s'
    | r => r := by
  apply Option.ext
  intro r
  rw [itL_some]
  cases hb : b (prep m s) with
  | none =>
    simp only []
    constructor
    · rintro ⟨n, hn⟩
      cases n with
      | zero => simp [iterN] at hn
      | succ n => simp [iterN, hb] at hn
    · intro h; simp at h
  | some q =>
    obtain ⟨e, s'⟩ := q
    cases e with
    | norm =>
      simp only []
      rw [itL_some]
      constructor
      · rintro ⟨n, hn⟩
        cases n with
        | zero => simp [iterN] at hn
        | succ n => exact ⟨n, by simpa [iterN, hb] using hn⟩
      · rintro ⟨n, hn⟩
        exact ⟨n + 1, by simpa [iterN, hb] using hn⟩
    | exit id =>
      constructor
      · rintro ⟨n, hn⟩
        cases n with
        | zero => simp [iterN] at hn
        | succ n => simpa [iterN, hb] using hn
      · intro h; exact ⟨1, by simpa [iterN, hb] using h⟩
    | ret =>
      constructor
      · rintro ⟨n, hn⟩
        cases n with
        | zero => simp [iterN] at hn
        | succ n => simpa [iterN, hb] using hn
      · intro h; exact ⟨1, by simpa [iterN, hb] using h⟩

def CLe (cf cf' : CF) : Prop := ∀ f args H r, cf f args H = some r → cf' f args H = some r
def ItLe (it it' : It) : Prop := ∀ b b' m s r, (∀ s r, b s = some r → b' s = some r) → it b m s = some r → it' b' m s = some r

theorem itL_le : ItLe itL itL := fun b b' m s r h h1 => by
  rw [itL_some] at h1 ⊢
  obtain ⟨n, hn⟩ := h1
  exact ⟨n, iterN_mono h m n n s r (Nat.le_refl _) hn⟩

theorem itN_le (n : Nat) : ItLe (fun b m s => iterN b m n s) itL := fun b b' m s r h h1 => itL_some.2 ⟨n, iterN_mono h m n n s r (Nat.le_refl _) h1⟩

theorem evOp_mono (h : CLe cf cf') {ρ : Operand → AV} {H : List MB} {o : Oper} {r : AV × List MB} (h1 : evOp P cf mu ρ H o = some r) : evOp P cf' mu ρ H o = some r := by
  obtain ⟨dst, op, type, pos, after, guard⟩ := o
  cases op
  case makeFunc fn first cap => cases fn <;> exact h1
  case call c =>
   obtain ⟨callee, args, ats⟩ := c
   cases callee with
   | builtin b => exact h1
   | invoke x y => exact h1
   | value f =>
     simp only [evOp, evCall] at h1 ⊢
     split at h1
     · exact h _ _ _ _ h1
     · simp at h1
  all_goals exact h1

theorem evOne_mono (h : CLe cf cf') {ops : List Oper} {o : Oper} {s s' : St} (h1 : evOne P cf mu ops o s = some s') : evOne P cf' mu ops o s = some s' := by
  unfold evOne at h1 ⊢
  split at h1
  · split at h1
    · rename_i v H hop
      simp only [evOp_mono h hop]
      exact h1
    · simp at h1
  · exact h1
  · simp at h1

theorem evOps_mono (h : CLe cf cf') {ops : List Oper} : ∀ (l : List Oper) {s s' : St}, evOps P cf mu ops l s = some s' → evOps P cf' mu ops l s = some s'
  | [], s, s', h1 => h1
  | o :: l, s, s', h1 => by
    simp only [evOps] at h1 ⊢
    split at h1
    · rename_i s1 hs
      rw [evOne_mono h hs]
      exact evOps_mono h l h1
    · simp at h1

theorem evOpsD_mono (h : CLe cf cf') {ops : List Oper} : ∀ (l : List Oper) (i : Nat) {s : St} {r : List (Nat × FP) × St}, evOpsD P cf mu ops i l s = some r → evOpsD P cf' mu ops i l s = some r
  | [], i, s, r, h1 => h1
  | o :: l, i, s, r, h1 => by
    simp only [evOpsD] at h1 ⊢
    split at h1
    · rename_i b hb
      split at h1
      · rename_i s1 hs
        rw [evOne_mono h hs]
        simp only []
        split at h1
        · rename_i fl s2 h2
          rw [evOpsD_mono h l (i + 1) h2]
          exact h1
        · simp at h1
      · simp at h1
    · simp at h1

theorem evRegion_mono (h : CLe cf cf') {ops : Array Oper} {d : Bool} {s s' : St} (h1 : evRegion P cf mu ops d s = some s') : evRegion P cf' mu ops d s = some s' := by
  unfold evRegion at h1 ⊢
  split at h1
  · rename_i hd
    rw [if_pos hd]
    split at h1
    · rename_i fl s1 h2
      rw [evOpsD_mono h _ _ h2]
      exact h1
    · simp at h1
  · rename_i hd
    rw [if_neg hd]
    exact evOps_mono h _ h1

theorem evCode_mono (h : CLe cf cf') {it it' : It} (hi : ItLe it it') : ∀ (c : Code) {s : St} {r : EX × St}, evCode P cf it mu m c s = some r → evCode P cf' it' mu m c s = some r
  | .skip, s, r, h1 => h1
  | .label _, s, r, h1 => h1
  | .region _ ops d, s, r, h1 => by
    simp only [evCode] at h1 ⊢
    cases hr : evRegion P cf mu ops d s with
    | none => rw [hr] at h1; simp at h1
    | some s1 => rw [hr] at h1; rw [evRegion_mono h hr]; exact h1
  | .seq a b, s, r, h1 => by
    simp only [evCode] at h1 ⊢
    cases ha : evCode P cf it mu m a s with
    | none => rw [ha] at h1; simp at h1
    | some q =>
      rw [ha] at h1
      rw [evCode_mono h hi a ha]
      obtain ⟨e, s1⟩ := q
      cases e with
      | norm => exact evCode_mono h hi b h1
      | exit id => exact h1
      | ret => exact h1
  | .cond c x y, s, r, h1 => by
    simp only [evCode] at h1 ⊢
    split at h1
    · exact evCode_mono h hi x h1
    · exact evCode_mono h hi y h1
    · simp at h1
  | .block id b, s, r, h1 => by
    simp only [evCode] at h1 ⊢
    cases hb : evCode P cf it mu m b s with
    | none => rw [hb] at h1; simp at h1
    | some q =>
      rw [hb] at h1
      rw [evCode_mono h hi b hb]
      exact h1
  | .loop b, s, r, h1 => by
    simp only [evCode] at h1 ⊢
    exact hi _ _ _ _ _ (fun s r hh => evCode_mono h hi b hh) h1
  | .scope b, s, r, h1 => by
    simp only [evCode] at h1 ⊢
    exact evCode_mono h hi b h1
  | .exit _, s, r, h1 => h1
  | .ret, s, r, h1 => h1
  | .rangeFunc _ _ _ _, s, r, h1 => by simp [evCode] at h1
  | .goto _, s, r, h1 => by simp [evCode] at h1
  | .refuse _, s, r, h1 => by simp [evCode] at h1

theorem evBody_mono (h : CLe cf cf') {it it' : It} (hi : ItLe it it') : CLe (evBody P pol cf it) (evBody P pol cf' it') := by
  intro f args H r h1
  unfold evBody at h1 ⊢
  split at h1
  · exact h1
  · split at h1
    · simp at h1
    · rename_i fn hfn
      split at h1
      · simp at h1
      · rename_i c hc
        split at h1
        · simp at h1
        · rename_i hn
          rw [if_neg hn]
          split at h1
          · simp at h1
          · rename_i as H1 hz
            cases hev : evCode P cf it (pol.muts f) (cfgOf pol f H1.length) c { n := as.length + (fn.ntmps - as.length), t := initT 0 as [], h := H1 } with
            | none => rw [hev] at h1; simp at h1
            | some q =>
              rw [hev] at h1
              rw [evCode_mono h hi c hev]
              exact h1

theorem evStep_mono (h : CLe cf cf') {it it' : It} (hi : ItLe it it') : CLe (evStep P pol cf it) (evStep P pol cf' it') := by
  intro f args H r h1
  unfold evStep at h1 ⊢
  split at h1
  · rename_i hp
    rw [if_pos hp]
    split at h1
    · rename_i as H1 hz
      split at h1
      · rename_i hu
        rw [if_pos hu]
        cases hb : evBody P pol cf it f as [] with
        | none => rw [hb] at h1; simp [rebase] at h1
        | some q =>
          rw [hb] at h1
          rw [evBody_mono h hi f as [] q hb]; exact h1
      · simp at h1
    · simp at h1
  · rename_i hp
    rw [if_neg hp]
    exact evBody_mono h hi f args H r h1

/-- Calls to a depth. -/
noncomputable def cL (P : Program) (pol : Pol) : Nat → CF
  | 0 => fun _ _ _ => none
  | k + 1 => evStep P pol (cL P pol k) itL

theorem cL_step (k : Nat) : CLe (cL P pol k) (cL P pol (k + 1)) := by
  induction k with
  | zero => intro f args H r h; simp [cL] at h
  | succ k ih => exact evStep_mono ih itL_le

theorem cL_mono {k k' : Nat} (h : k ≤ k') : CLe (cL P pol k) (cL P pol k') := by
  induction h with
  | refl => exact fun _ _ _ _ h => h
  | step _ ih => exact fun f a H r h => cL_step _ f a H r (ih f a H r h)

open Classical in
/-- A call, as deep as it takes. -/
noncomputable def call (P : Program) (pol : Pol) : CF := fun f args H => if h : ∃ r, ∃ k, cL P pol k f args H = some r then some h.choose else none

theorem call_some {f : Nat} {args : List AV} {H : List MB} {r : AV × List MB} : call P pol f args H = some r ↔ ∃ k, cL P pol k f args H = some r := by
  unfold call
  constructor
  · intro h
    split at h
    · rename_i hx
      simp at h; subst h
      exact hx.choose_spec
    · simp at h
  · rintro ⟨k, hk⟩
    rw [dif_pos ⟨r, k, hk⟩]
    obtain ⟨k', hk'⟩ := (show ∃ r, ∃ k, cL P pol k f args H = some r from ⟨r, k, hk⟩).choose_spec
    have h1 := cL_mono (show k ≤ k + k' by omega) _ _ _ _ hk
    have h2 := cL_mono (show k' ≤ k + k' by omega) _ _ _ _ hk'
    rw [h1] at h2
    exact h2.symm

theorem cL_le_call (k : Nat) : CLe (cL P pol k) (call P pol) := fun _ _ _ _ h => call_some.2 ⟨k, h⟩

/-- What a run needs is found at some depth. -/
theorem evOne_fin {ops : List Oper} {o : Oper} {s s' : St} (h : evOne P (call P pol) mu ops o s = some s') : ∃ k, evOne P (cL P pol k) mu ops o s = some s' := by
  have hop : ∀ {v}, evOp P (call P pol) mu s.ev s.h o = some v → ∃ k, evOp P (cL P pol k) mu s.ev s.h o = some v := by
    intro v hv
    obtain ⟨dst, op, type, pos, after, guard⟩ := o
    cases op
    case makeFunc fn first cap => cases fn <;> exact ⟨0, hv⟩
    case call c =>
     obtain ⟨callee, args, ats⟩ := c
     cases callee with
     | builtin b => exact ⟨0, hv⟩
     | invoke x y => exact ⟨0, hv⟩
     | value f =>
       simp only [evOp, evCall] at hv ⊢
       split at hv
       · rename_i g cs hg
         obtain ⟨k, hk⟩ := call_some.1 hv
         exact ⟨k, hk⟩
       · simp at hv
    all_goals exact ⟨0, hv⟩
  unfold evOne at h
  split at h
  · rename_i hw
    split at h
    · rename_i v H hv
      obtain ⟨k, hk⟩ := hop hv
      exact ⟨k, by unfold evOne; rw [hw]; simp only [hk]; exact h⟩
    · simp at h
  · rename_i hw
    exact ⟨0, by unfold evOne; rw [hw]; exact h⟩
  · simp at h

theorem evOps_fin {ops : List Oper} : ∀ (l : List Oper) {s s' : St}, evOps P (call P pol) mu ops l s = some s' → ∃ k, evOps P (cL P pol k) mu ops l s = some s'
  | [], s, s', h => ⟨0, h⟩
  | o :: l, s, s', h => by
    simp only [evOps] at h
    split at h
    · rename_i s1 h1
      obtain ⟨k1, e1⟩ := evOne_fin h1
      obtain ⟨k2, e2⟩ := evOps_fin l h
      refine ⟨k1 + k2, ?_⟩
      simp only [evOps]
      rw [evOne_mono (cL_mono (by omega)) e1]
      exact evOps_mono (cL_mono (by omega)) l e2
    · simp at h

theorem evOpsD_fin {ops : List Oper} : ∀ (l : List Oper) (i : Nat) {s : St} {r : List (Nat × FP) × St}, evOpsD P (call P pol) mu ops i l s = some r → ∃ k, evOpsD P (cL P pol k) mu ops i l s = some r
  | [], i, s, r, h => ⟨0, h⟩
  | o :: l, i, s, r, h => by
    simp only [evOpsD] at h
    split at h
    · rename_i b hb
      split at h
      · rename_i s1 h1
        split at h
        · rename_i fl s2 h2
          obtain ⟨k1, e1⟩ := evOne_fin h1
          obtain ⟨k2, e2⟩ := evOpsD_fin l (i + 1) h2
          refine ⟨k1 + k2, ?_⟩
          simp only [evOpsD]
          rw [hb, evOne_mono (cL_mono (by omega)) e1]
          simp only []
          rw [evOpsD_mono (cL_mono (show k2 ≤ k1 + k2 by omega)) l (i + 1) e2]
          exact h
        · simp at h
      · simp at h
    · simp at h

theorem evRegion_fin {ops : Array Oper} {d : Bool} {s s' : St} (h : evRegion P (call P pol) mu ops d s = some s') : ∃ k, evRegion P (cL P pol k) mu ops d s = some s' := by
  unfold evRegion at h
  split at h
  · rename_i hd
    split at h
    · rename_i fl s1 h2
      obtain ⟨k, e⟩ := evOpsD_fin _ _ h2
      exact ⟨k, by unfold evRegion; rw [if_pos hd, e]; exact h⟩
    · simp at h
  · rename_i hd
    obtain ⟨k, e⟩ := evOps_fin _ h
    exact ⟨k, by unfold evRegion; rw [if_neg hd]; exact e⟩

theorem evCode_fin : ∀ (c : Code) {s : St} {r : EX × St}, evCode P (call P pol) itL mu m c s = some r → ∃ k, evCode P (cL P pol k) itL mu m c s = some r
  | .skip, s, r, h => ⟨0, h⟩
  | .label _, s, r, h => ⟨0, h⟩
  | .region _ ops d, s, r, h => by
    simp only [evCode] at h
    cases hr : evRegion P (call P pol) mu ops d s with
    | none => rw [hr] at h; simp at h
    | some s1 =>
      obtain ⟨k, e⟩ := evRegion_fin hr
      refine ⟨k, ?_⟩
      rw [hr] at h
      simp only [evCode, e]; exact h
  | .seq a b, s, r, h => by
    simp only [evCode] at h
    cases ha : evCode P (call P pol) itL mu m a s with
    | none => rw [ha] at h; simp at h
    | some q =>
      rw [ha] at h
      obtain ⟨k1, e1⟩ := evCode_fin a ha
      obtain ⟨e, s1⟩ := q
      cases e with
      | norm =>
        obtain ⟨k2, e2⟩ := evCode_fin b h
        refine ⟨k1 + k2, ?_⟩
        simp only [evCode]
        rw [evCode_mono (cL_mono (show k1 ≤ k1 + k2 by omega)) itL_le a e1]
        exact evCode_mono (cL_mono (show k2 ≤ k1 + k2 by omega)) itL_le b e2
      | exit id => exact ⟨k1, by simp only [evCode, e1]; exact h⟩
      | ret => exact ⟨k1, by simp only [evCode, e1]; exact h⟩
  | .cond c x y, s, r, h => by
    simp only [evCode] at h
    split at h
    · rename_i hc
      obtain ⟨k, e⟩ := evCode_fin x h
      exact ⟨k, by simp only [evCode, hc]; exact e⟩
    · rename_i hc
      obtain ⟨k, e⟩ := evCode_fin y h
      exact ⟨k, by simp only [evCode, hc]; exact e⟩
    · simp at h
  | .block id b, s, r, h => by
    simp only [evCode] at h
    cases hb : evCode P (call P pol) itL mu m b s with
    | none => rw [hb] at h; simp at h
    | some q =>
      rw [hb] at h
      obtain ⟨k, e⟩ := evCode_fin b hb
      exact ⟨k, by simp only [evCode, e]; exact h⟩
  | .loop b, s, r, h => by
    simp only [evCode] at h
    rw [itL_some] at h
    obtain ⟨n, hn⟩ := h
    suffices hs : ∀ n s, iterN (fun s => evCode P (call P pol) itL mu m b s) (m.lp (loopId b)) n s = some r → ∃ k, iterN (fun s => evCode P (cL P pol k) itL mu m b s) (m.lp (loopId b)) n s = some r by
      obtain ⟨k, e⟩ := hs n s hn
      exact ⟨k, by simp only [evCode]; exact itL_some.2 ⟨n, e⟩⟩
    clear hn n
    intro n
    induction n with
    | zero => intro s hn; simp [iterN] at hn
    | succ n ih =>
      intro s hn
      simp only [iterN] at hn
      cases hb : evCode P (call P pol) itL mu m b (prep (m.lp (loopId b)) s) with
      | none => rw [hb] at hn; simp at hn
      | some q =>
        rw [hb] at hn
        obtain ⟨k1, e1⟩ := evCode_fin b hb
        obtain ⟨e, s1⟩ := q
        cases e with
        | norm =>
          obtain ⟨k2, e2⟩ := ih s1 hn
          refine ⟨k1 + k2, ?_⟩
          simp only [iterN]
          rw [evCode_mono (cL_mono (show k1 ≤ k1 + k2 by omega)) itL_le b e1]
          exact iterN_mono (fun s r hh => evCode_mono (cL_mono (show k2 ≤ k1 + k2 by omega)) itL_le b hh) (m.lp (loopId b)) n n s1 r (Nat.le_refl _) e2
        | exit id => exact ⟨k1, by simp only [iterN, e1]; exact hn⟩
        | ret => exact ⟨k1, by simp only [iterN, e1]; exact hn⟩
  | .scope b, s, r, h => by
    simp only [evCode] at h
    obtain ⟨k, e⟩ := evCode_fin b h
    exact ⟨k, by simp only [evCode]; exact e⟩
  | .exit _, s, r, h => ⟨0, h⟩
  | .ret, s, r, h => ⟨0, h⟩
  | .rangeFunc _ _ _ _, s, r, h => by simp [evCode] at h
  | .goto _, s, r, h => by simp [evCode] at h
  | .refuse _, s, r, h => by simp [evCode] at h

theorem evBody_fin {f : Nat} {args : List AV} {H : List MB} {r : AV × List MB} (h : evBody P pol (call P pol) itL f args H = some r) : ∃ k, evBody P pol (cL P pol k) itL f args H = some r := by
    unfold evBody at h ⊢
    split at h
    · exact ⟨0, h⟩
    · split at h
      · simp at h
      · rename_i fn hfn
        split at h
        · simp at h
        · rename_i c hc
          split at h
          · simp at h
          · rename_i hn
            split at h
            · simp at h
            · rename_i as H1 hz
              cases hev : evCode P (call P pol) itL (pol.muts f) (cfgOf pol f H1.length) c { n := as.length + (fn.ntmps - as.length), t := initT 0 as [], h := H1 } with
              | none => rw [hev] at h; simp at h
              | some q =>
                obtain ⟨k, e⟩ := evCode_fin c hev
                refine ⟨k, ?_⟩
                rw [hev] at h
                rw [if_neg hn, e]
                exact h

/-- A call is its body. -/
theorem call_eq : call P pol = evStep P pol (call P pol) itL := by
  funext f args H
  apply Option.ext
  intro r
  constructor
  · intro h
    obtain ⟨k, hk⟩ := call_some.1 h
    cases k with
    | zero => simp [cL] at hk
    | succ k => exact evStep_mono (cL_le_call k) itL_le f args H r hk
  · intro h
    rw [call_some]
    suffices ∃ k, evStep P pol (cL P pol k) itL f args H = some r by
      obtain ⟨k, e⟩ := this
      exact ⟨k + 1, e⟩
    unfold evStep at h ⊢
    split at h
    · rename_i hp
      split at h
      · rename_i as H1 hz
        split at h
        · rename_i hu
          cases hb : evBody P pol (call P pol) itL f as [] with
          | none => rw [hb] at h; simp [rebase] at h
          | some q =>
            obtain ⟨k, e⟩ := evBody_fin hb
            rw [hb] at h
            exact ⟨k, by rw [if_pos hp, if_pos hu, e]; exact h⟩
        · simp at h
      · simp at h
    · rename_i hp
      obtain ⟨k, e⟩ := evBody_fin h
      exact ⟨k, by rw [if_neg hp]; exact e⟩

theorem call_ok (hext : ExtOk P pol) (hm : P.follows .mixedOrders = true) : CfOk P (call P pol) := by
  have hk : ∀ k, CfOk P (cL P pol k) := by
    intro k
    induction k with
    | zero => intro f args H r H' h; simp [cL] at h
    | succ k ih => exact evStep_sound hext ih itL_ok hm
  intro f args H r H' h
  obtain ⟨k, e⟩ := call_some.1 h
  exact hk k f args H r H' e

/-- Where evaluation with fuel comes to an end, it is the call. -/
theorem call_of_evF {n : Nat} : ∀ (k : Nat), CLe (evF P pol n k) (call P pol)
  | 0 => fun f args H r h => by simp [evF] at h
  | k + 1 => fun f args H r h => by
    rw [call_eq]
    exact evStep_mono (call_of_evF k) (itN_le n) f args H r (by simpa [evF] using h)

end Go.Ev
