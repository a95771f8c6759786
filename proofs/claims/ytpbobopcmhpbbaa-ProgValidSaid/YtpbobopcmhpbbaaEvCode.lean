/- Code, and what a call leaves behind. -/
import Derived.Test.YtpbobopcmhpbbaaEvRegion
import Derived.LoopN
import Derived.Scope
set_option linter.unusedVariables false
set_option linter.unusedSimpArgs false
namespace Go.Ev
open Go.RowKit

variable {P : Program} {cf : CF} {it : It} {mu : List Nat} {m : Cfg} {B0 : Nat} {w0 : Base} {w : World} {I I0 : Imm} {H : List MB} {L L0 : List Lay}

def PostOk (B0 : Nat) (w0 : Base) (I0 : Imm) (L0 : List Lay) (e : EX) (s : St) : Exit → Act → World → Prop
  | .normal, a, w => e = .norm ∧ StOk B0 w0 I0 L0 s a w
  | .exit id, a, w => e = .exit id ∧ StOk B0 w0 I0 L0 s a w
  | .ret, a, w => e = .ret ∧ StOk B0 w0 I0 L0 s a w
  | _, _, _ => False

def ItOk (it : It) : Prop := ∀ b m s r, it b m s = some r → ∃ n, iterN b m n s = some r

theorem StOk.keep {s : St} {a : Act} (h : StOk B0 w0 I0 L0 s a w) (l : Option (List Nat)) : StOk B0 w0 I0 L0 { s with t := keepT l s.t } a w := by
  obtain ⟨I, L, h1, h2, h3, h4⟩ := h
  exact ⟨I, L, h1, h2, h3, h4.sub (keepT_sub l s.t)⟩

theorem StOk.dropSt {s : St} {a : Act} (h : StOk B0 w0 I0 L0 s a w) (l : List Nat) : StOk B0 w0 I0 L0 (dropSt l s) a w := by
  obtain ⟨I, L, h1, h2, h3, h4⟩ := h
  exact ⟨I, L, h1, h2, h3, h4.sub (dropT_sub l s.t)⟩

theorem under_cells (n : Nat) (x : AV) : AV.under n x = true ↔ ∀ c ∈ x.cells, AV.under n c = true := by
  have hL : ∀ l : List AV, AV.underL n l = true ↔ ∀ c ∈ l, AV.under n c = true := by
    intro l
    induction l with
    | nil => simp [AV.underL]
    | cons a l ih => simp [AV.underL, ih]
  cases x with
  | agg cs => simp only [AV.under, AV.cells]; exact hL cs
  | _ => simp [AV.cells]

theorem underL_iff (n : Nat) (l : List AV) : AV.underL n l = true ↔ ∀ c ∈ l, AV.under n c = true := by
  induction l with
  | nil => simp [AV.underL]
  | cons a l ih => simp [AV.underL, ih]

theorem Rep.under {a : AV} {v : Value} (h : Rep I L a v) : AV.under L.length a = true := by
  induction h with
  | sl t xs b o c k f hc ht hk hI hR ih =>
    simp only [AV.under]
    rw [underL_iff]
    intro x hx
    rw [under_cells]
    intro y hy
    obtain ⟨i, hi⟩ := List.getElem?_of_mem hx
    obtain ⟨j, hj⟩ := List.getElem?_of_mem hy
    exact ih i j x y hi hj
  | pt cs b o f hI hR ih =>
    simp only [AV.under]
    rw [underL_iff]
    intro y hy
    obtain ⟨j, hj⟩ := List.getElem?_of_mem hy
    exact ih j y hj
  | rf id tot i j l b o hL ht hv => simp only [AV.under]; simp; exact (List.getElem?_eq_some_iff.1 hL).1
  | ms id k tot off len l b o c hL ht hk hl hc hv => simp only [AV.under]; simp; exact (List.getElem?_eq_some_iff.1 hL).1
  | clo f cs ws hn hR ih =>
    simp only [AV.under]
    rw [underL_iff]
    intro y hy
    obtain ⟨j, hj⟩ := List.getElem?_of_mem hy
    exact ih j y hj
  | agg cs ws hn hs hR ih =>
    simp only [AV.under]
    rw [underL_iff]
    intro y hy
    obtain ⟨j, hj⟩ := List.getElem?_of_mem hy
    exact ih j y hj
  | tup cs ws hn hR ih =>
    simp only [AV.under]
    rw [underL_iff]
    intro y hy
    obtain ⟨j, hj⟩ := List.getElem?_of_mem hy
    exact ih j y hj
  | _ => rfl

theorem Rep.restrict {n : Nat} {a : AV} {v : Value} (h : Rep I L a v) (hu : AV.under n a = true) : Rep I (L.take n) a v := by
  induction h with
  | top v => exact .top v
  | int k n => exact .int k n
  | bool b => exact .bool b
  | str s => exact .str s
  | nilp => exact .nilp
  | nilf => exact .nilf
  | nili => exact .nili
  | nilm => exact .nilm
  | nilsl t => exact .nilsl t
  | sl t xs b o c k f hc ht hk hI hR ih =>
    simp only [AV.under] at hu
    rw [underL_iff] at hu
    refine .sl t xs b o c k f hc ht hk hI (fun i j x y h1 h2 => ih i j x y h1 h2 ?_)
    exact (under_cells n x).1 (hu x (List.mem_of_getElem? h1)) y (List.mem_of_getElem? h2)
  | pt cs b o f hI hR ih =>
    simp only [AV.under] at hu
    rw [underL_iff] at hu
    exact .pt cs b o f hI (fun j y h => ih j y h (hu y (List.mem_of_getElem? h)))
  | rf id tot i j l b o hL ht hv =>
    simp only [AV.under] at hu
    simp at hu
    exact .rf id tot i j l b o (by rw [List.getElem?_take, if_pos hu]; exact hL) ht hv
  | ms id k tot off len l b o c hL ht hk hl hc hv =>
    simp only [AV.under] at hu
    simp at hu
    exact .ms id k tot off len l b o c (by rw [List.getElem?_take, if_pos hu]; exact hL) ht hk hl hc hv
  | clo f cs ws hn hR ih =>
    simp only [AV.under] at hu
    rw [underL_iff] at hu
    exact .clo f cs ws hn (fun j y h => ih j y h (hu y (List.mem_of_getElem? h)))
  | agg cs ws hn hs hR ih =>
    simp only [AV.under] at hu
    rw [underL_iff] at hu
    exact .agg cs ws hn hs (fun j y h => ih j y h (hu y (List.mem_of_getElem? h)))
  | tup cs ws hn hR ih =>
    simp only [AV.under] at hu
    rw [underL_iff] at hu
    exact .tup cs ws hn (fun j y h => ih j y h (hu y (List.mem_of_getElem? h)))

theorem keptOk_spec (n : Nat) : ∀ (xs ys : List MB) (i : Nat) (x y : MB), keptOk n xs ys = true → xs[i]? = some x → ys[i]? = some y → y = x ∨ MB.under n y = true
  | [], _, i, x, y, _, h, _ => by simp at h
  | _ :: _, [], i, x, y, _, _, h => by simp at h
  | a :: xs, b :: ys, i, x, y, h, h1, h2 => by
    simp only [keptOk, Bool.and_eq_true, Bool.or_eq_true] at h
    match i, h1, h2 with
    | 0, h1, h2 =>
      simp at h1 h2; subst h1; subst h2
      rcases h.1 with g | g
      · exact .inl (MB.eq_of_beq _ _ g)
      · exact .inr g
    | i + 1, h1, h2 => exact keptOk_spec n xs ys i x y h.2 (by simpa using h1) (by simpa using h2)

/-- The blocks from number n on are forgotten. -/
theorem Inv.drop (hi : Inv B0 w0 I H L w) {n : Nat} (hn : n ≤ H.length)
    (hu : ∀ id k els z l, id < n → H[id]? = some (.row k els z) → L[id]? = some l → ∀ (i j : Nat) (x y : AV), els[i]? = some x → x.cells[j]? = some y → l.sh ≤ i → AV.under n y = true) :
    Inv B0 w0 I (H.take n) (L.take n) w := by
  refine ⟨hi.below, hi.base, by simp [hi.len], fun id m l hm hl => ?_, fun i j l l' h1 h2 h3 => ?_, hi.imm, hi.old⟩
  · rw [List.getElem?_take] at hm hl
    split at hm
    · rename_i hid
      rw [if_pos hid] at hl
      have hb := hi.blk id m l hm hl
      cases m with
      | mp es => exact hb
      | row k els z =>
        refine ⟨hb.hk, hb.ht, hb.hsh, hb.hz, hb.hB, hb.wid, hb.fit, ?_, hb.free⟩
        obtain ⟨cs, T, f1, f2, f3, f4⟩ := BlkOk.blk hb
        refine ⟨cs, T, f1, f2, fun i j x y g1 g2 g3 => ?_, f4⟩
        obtain ⟨v, e1, e2, e3⟩ := f3 i j x y g1 g2 g3
        exact ⟨v, e1, e2, e3.restrict (hu id k els z l hid hm hl i j x y g1 g2 g3)⟩
    · simp at hm
  · rw [List.getElem?_take] at h1 h2
    split at h1
    · split at h2
      · exact hi.inj i j l l' h1 h2 h3
      · simp at h2
    · simp at h1

theorem StOk.prep {s : St} {a : Act} (h : StOk B0 w0 I0 L0 s a w) (m : Msk) (hg : ∀ n, m.gc = some n → L0.length ≤ n) : StOk B0 w0 I0 L0 (prep m s) a w := by
  have hc := h.keep m.k
  unfold Ev.prep
  split
  · exact hc
  · rename_i n hn
    split
    · rename_i hu
      rcases Nat.lt_or_ge n s.h.length with hlt | hge
      · obtain ⟨I, L, h1, h2, h3, h4⟩ := hc
        refine ⟨I, L.take n, h1.drop (Nat.le_of_lt hlt) (fun id k els z l hid hm hl i j x y g1 g2 g3 => ?_), ⟨h2.imm, fun id l hl => ?_⟩, h3, h4.1, h4.2.1, fun q hq => ?_⟩
        · have := List.all_eq_true.1 hu.2 (.row k els z) (List.mem_of_getElem? (i := id) (by rw [List.getElem?_take, if_pos hid]; exact hm))
          simp only [MB.under] at this
          exact (under_cells n x).1 ((underL_iff n els).1 this x (List.mem_of_getElem? g1)) y (List.mem_of_getElem? g2)
        · obtain ⟨l', e, r⟩ := h2.lay id l hl
          have := hg n hn
          have := (List.getElem?_eq_some_iff.1 hl).1
          exact ⟨l', by rw [List.getElem?_take, if_pos (by omega)]; exact e, r⟩
        · exact ⟨(h4.2.2 q hq).1, (h4.2.2 q hq).2.restrict ((underL_iff n _).1 hu.1 q.2 (List.mem_map.2 ⟨q, hq, rfl⟩))⟩
      · rw [List.take_of_length_le hge]; exact hc
    · exact hc

theorem evCode_sound (hg : ∀ i n, (m.lp i).gc = some n → L0.length ≤ n) (hcf : CfOk P cf) (hit : ItOk it) (hm : P.follows .mixedOrders = true) : ∀ (c : Code) {s s' : St} {e : EX} {a : Act} {w : World},
    evCode P cf it mu m c s = some (e, s') → StOk B0 w0 I0 L0 s a w → c.wp P (PostOk B0 w0 I0 L0 e s') a w
  | .skip, s, s', e, a, w, h, hs => by
    simp [evCode] at h; obtain ⟨rfl, rfl⟩ := h
    exact wp_skip ⟨rfl, hs⟩
  | .label _, s, s', e, a, w, h, hs => by
    simp [evCode] at h; obtain ⟨rfl, rfl⟩ := h
    exact wp_label ⟨rfl, hs⟩
  | .region id ops draw, s, s', e, a, w, h, hs => by
    simp only [evCode] at h
    cases hr : evRegion P cf mu ops draw s with
    | none => rw [hr] at h; simp at h
    | some s1 =>
      rw [hr] at h; simp at h; obtain ⟨rfl, rfl⟩ := h
      exact evRegion_sound hcf hm hr hs (fun a w hs' => ⟨rfl, hs'.dropSt _⟩)
  | .seq x y, s, s', e, a, w, h, hs => by
    simp only [evCode] at h
    refine wp_seq ?_
    split at h
    · rename_i s1 h1
      refine wp_mono (evCode_sound hg hcf hit hm x h1 hs) (fun e1 a1 w1 hp => ?_)
      cases e1 with
      | normal => exact evCode_sound hg hcf hit hm y h hp.2
      | exit id => exact absurd hp.1 (by simp)
      | ret => exact absurd hp.1 (by simp)
      | goto l => exact hp.elim
      | panic c => exact hp.elim
      | outgrown => exact hp.elim
    · rename_i r hne
      cases hx : evCode P cf it mu m x s with
      | none => rw [hx] at h; simp at h
      | some q =>
        obtain ⟨e1, s1⟩ := q
        have hn : e1 ≠ .norm := by
          rintro rfl
          exact hne s1 hx
        rw [hx] at h
        have h' : e1 = e ∧ s1 = s' := by
          cases e1 with
          | norm => exact absurd rfl hn
          | exit id => simpa using h
          | ret => simpa using h
        obtain ⟨rfl, rfl⟩ := h'
        refine wp_mono (evCode_sound hg hcf hit hm x hx hs) (fun e2 a1 w1 hp => ?_)
        cases e2 with
        | normal => exact absurd hp.1 hn
        | exit id => exact hp
        | ret => exact hp
        | goto l => exact hp.elim
        | panic c => exact hp.elim
        | outgrown => exact hp.elim
  | .cond c x y, s, s', e, a, w, h, hs => by
    simp only [evCode] at h
    obtain ⟨I, L, i1, i2, i3, i4⟩ := hs
    have hr := ev_rep i4 c
    split at h
    · rename_i hc
      rw [hc] at hr
      generalize hv : a.eval c = v at hr
      cases hr
      exact wp_cond_true hv (evCode_sound hg hcf hit hm x h ⟨I, L, i1, i2, i3, i4⟩)
    · rename_i hc
      rw [hc] at hr
      generalize hv : a.eval c = v at hr
      cases hr
      exact wp_cond_false hv (evCode_sound hg hcf hit hm y h ⟨I, L, i1, i2, i3, i4⟩)
    · simp at h
  | .block id b, s, s', e, a, w, h, hs => by
    simp only [evCode] at h
    refine wp_block ?_
    split at h
    · rename_i id' s1 h1
      refine wp_mono (evCode_sound hg hcf hit hm b h1 hs) (fun e1 a1 w1 hp => ?_)
      cases e1 with
      | normal => exact absurd hp.1 (by simp)
      | exit id2 =>
        obtain ⟨h2, h3⟩ := hp
        simp at h2; subst h2
        show Exit.inBlock id _ (.exit id') a1 w1
        simp only [Exit.inBlock]
        split at h
        · rename_i e2
          simp at h; obtain ⟨rfl, rfl⟩ := h
          rw [if_pos e2]; exact ⟨rfl, h3.dropSt _⟩
        · rename_i e2
          simp at h; obtain ⟨rfl, rfl⟩ := h
          rw [if_neg e2]; exact ⟨rfl, h3⟩
      | ret => exact absurd hp.1 (by simp)
      | goto l => exact hp.elim
      | panic c => exact hp.elim
      | outgrown => exact hp.elim
    · rename_i s1 h1
      simp at h; obtain ⟨rfl, rfl⟩ := h
      refine wp_mono (evCode_sound hg hcf hit hm b h1 hs) (fun e1 a1 w1 hp => ?_)
      cases e1 with
      | normal => exact ⟨rfl, hp.2.dropSt _⟩
      | exit id2 => exact absurd hp.1 (by simp)
      | ret => exact absurd hp.1 (by simp)
      | goto l => exact hp.elim
      | panic c => exact hp.elim
      | outgrown => exact hp.elim
    · rename_i hne hnn
      refine wp_mono (evCode_sound hg hcf hit hm b h hs) (fun e1 a1 w1 hp => ?_)
      cases e1 with
      | normal =>
        obtain ⟨h2, h3⟩ := hp
        subst h2
        exact absurd h (hnn s')
      | exit id2 =>
        obtain ⟨h2, h3⟩ := hp
        subst h2
        exact absurd h (hne id2 s')
      | ret => exact hp
      | goto l => exact hp.elim
      | panic c => exact hp.elim
      | outgrown => exact hp.elim
  | .loop b, s, s', e, a, w, h, hs => by
    simp only [evCode] at h
    obtain ⟨n, hn⟩ := hit _ _ _ _ h
    refine wp_loop_rounds n ?_
    clear h
    induction n generalizing s a w with
    | zero => simp [iterN] at hn
    | succ n ih =>
      simp only [iterN] at hn
      rw [rounds_succ]
      split at hn
      · rename_i s1 h1
        refine wp_mono (evCode_sound hg hcf hit hm b h1 (hs.prep (m.lp (loopId b)) (hg _))) (fun e1 a1 w1 hp => ?_)
        cases e1 with
        | normal => exact ih _ _ _ hp.2 hn
        | exit id => exact absurd hp.1 (by simp)
        | ret => exact absurd hp.1 (by simp)
        | goto l => exact hp.elim
        | panic c => exact hp.elim
        | outgrown => exact hp.elim
      · rename_i hne
        have hen : e ≠ .norm := by
          rintro rfl
          exact hne s' hn
        refine wp_mono (evCode_sound hg hcf hit hm b hn (hs.prep (m.lp (loopId b)) (hg _))) (fun e1 a1 w1 hp => ?_)
        cases e1 with
        | normal => exact absurd hp.1 hen
        | exit id => exact hp
        | ret => exact hp
        | goto l => exact hp.elim
        | panic c => exact hp.elim
        | outgrown => exact hp.elim
  | .scope b, s, s', e, a, w, h, hs => by
    simp only [evCode] at h
    refine wp_scope_straight (wp_mono (evCode_sound hg hcf hit hm b h hs) (fun e1 a1 w1 hp => ?_))
    cases e1 with
    | normal => exact hp
    | exit id => exact hp
    | ret => exact hp
    | goto l => exact hp.elim
    | panic c => exact hp.elim
    | outgrown => exact hp.elim
  | .exit id, s, s', e, a, w, h, hs => by
    simp [evCode] at h; obtain ⟨rfl, rfl⟩ := h
    exact wp_exit ⟨rfl, hs⟩
  | .ret, s, s', e, a, w, h, hs => by
    simp [evCode] at h; obtain ⟨rfl, rfl⟩ := h
    exact wp_ret ⟨rfl, hs⟩
  | .rangeFunc _ _ _ _, s, s', e, a, w, h, hs => by simp [evCode] at h
  | .goto _, s, s', e, a, w, h, hs => by simp [evCode] at h
  | .refuse _, s, s', e, a, w, h, hs => by simp [evCode] at h

/-! What refers to the first n blocks alone. -/

end Go.Ev
