/- Growing a block of ours into new memory; marking elements as never written again; what is handed on as never changing. -/
import Derived.Test.YtpbobopcmhpbbaaEvMem
set_option linter.unusedVariables false
set_option linter.unusedSimpArgs false
namespace Go.Ev
open Go.RowKit

variable {B0 : Nat} {w0 : Base} {w : World} {I : Imm} {H : List MB} {L : List Lay}

/-- A block of ours has grown into a new row of memory, which begins with element number `off`. -/
theorem Inv.regrow (hi : Inv B0 w0 I H L w) {id : Nat} {k : Nat} {els : List AV} {z : Nat} {l : Lay} (hm : H[id]? = some (.row k els z)) (hl : L[id]? = some l)
    (els' : List AV) (off : Nat) (cs' : Array Value) (T : TypeId) (hlen : els.length < els'.length) (hoff : off ≤ els'.length)
    (hw : ∀ x ∈ els', x.cells.length = k) (hf : (els'.length - off) * k ≤ cs'.size)
    (hc : ∀ i j x y, els'[i]? = some x → x.cells[j]? = some y → off ≤ i → ∃ v, cs'[(i - off) * k + j]? = some v ∧ scal v = true ∧ Rep I L y v) :
    ∃ I', Inv B0 w0 I' (H.set id (.row k els' z)) (L.set id ⟨k, els'.length, w.heap.size, cs'.size, 0, off⟩) (w.alloc (.cells cs' T)) ∧
      Ext I L I' (L.set id ⟨k, els'.length, w.heap.size, cs'.size, 0, off⟩) := by
  have hid : id < L.length := (List.getElem?_eq_some_iff.1 hl).1
  have hb := hi.blk id _ l hm hl
  have hz := BlkOk.hz hb
  let l' : Lay := ⟨k, els'.length, w.heap.size, cs'.size, 0, off⟩
  let I' : Imm := fun b o => if b = w.heap.size ∧ o < (z - off) * k then cs'[o]? else I b o
  have hI : ∀ b o, b ≠ w.heap.size → I' b o = I b o := fun b o h => by simp only [I']; rw [if_neg (by omega)]
  have hx : Ext I L I' (L.set id l') := by
    refine ⟨fun b o v h => ?_, fun id2 l2 h2 => ?_⟩
    · have := hi.imm_lt h
      rw [hI b o (by omega)]; exact h
    · by_cases e : id = id2
      · subst e
        rw [hl] at h2; obtain rfl := Option.some.inj h2
        refine ⟨l', by rw [List.getElem?_set_self hid], hb.hk.symm, by rw [hb.ht]; exact Nat.le_of_lt hlen, fun ht => ?_⟩
        have t1 := hb.ht
        have : l'.tot = els'.length := rfl
        omega
      · exact ⟨l2, by rw [List.getElem?_set_ne e]; exact h2, rfl, Nat.le_refl _, fun _ => rfl⟩
  refine ⟨I', ⟨hi.below.alloc hi.base _, by rw [World.size_alloc]; exact Nat.le_succ_of_le hi.base, by simp [hi.len], fun id2 m2 l2 hm2 hl2 => ?_, fun i j li lj h1 h2 h3 => ?_, fun b o v h => ?_, fun b o h => by have := hi.base; rw [hI b o (by omega)]; exact hi.old b o h⟩, hx⟩
  · by_cases e : id = id2
    · subst e
      rw [List.getElem?_set_self hid] at hl2
      rw [List.getElem?_set_self (by rw [← hi.len]; exact hid)] at hm2
      obtain rfl := Option.some.inj hl2
      obtain rfl := Option.some.inj hm2
      refine ⟨rfl, rfl, hoff, by omega, hi.base, hw, by simpa using hf, ⟨cs', T, (MapKept.heap_alloc w _).1, rfl, fun i j x y g1 g2 g3 => ?_, fun c g1 g2 => ?_⟩, fun c g => ?_⟩
      · obtain ⟨v, e1, e2, e3⟩ := hc i j x y g1 g2 g3
        exact ⟨v, by simpa using e1, e2, e3.mono hx⟩
      · simp at g2
        show I' w.heap.size c = _
        simp only [I']; rw [if_pos ⟨trivial, g2⟩]
      · simp at g
        show I' w.heap.size c = none
        simp only [I']; rw [if_neg (by omega)]; exact hi.imm_new c
    · rw [List.getElem?_set_ne e] at hl2 hm2
      have h1 := hi.blk id2 m2 l2 hm2 hl2
      have hlt := hi.lay_lt hl2
      refine MbOk.mono hx (fun c => hI _ _ (by omega)) ?_
      cases m2 with
      | mp es => exact h1
      | row k els z =>
        refine ⟨h1.hk, h1.ht, h1.hsh, h1.hz, h1.hB, h1.wid, h1.fit, ?_, h1.free⟩
        obtain ⟨cs2, T2, g, g2⟩ := BlkOk.blk h1
        exact ⟨cs2, T2, by rw [Below.heap_alloc _ _ _ hlt]; exact g, g2⟩
  · have hcase : ∀ (i : Nat) (li : Lay), (L.set id l')[i]? = some li → (i = id ∧ li.b = w.heap.size) ∨ (i ≠ id ∧ L[i]? = some li ∧ li.b < w.heap.size) := by
      intro i li h
      by_cases e : id = i
      · subst e
        rw [List.getElem?_set_self hid] at h
        obtain rfl := Option.some.inj h
        exact .inl ⟨rfl, rfl⟩
      · rw [List.getElem?_set_ne e] at h
        exact .inr ⟨fun h => e h.symm, h, hi.lay_lt h⟩
    rcases hcase i li h1 with ⟨a1, a2⟩ | ⟨a1, a2, a3⟩
    · rcases hcase j lj h2 with ⟨b1, b2⟩ | ⟨b1, b2, b3⟩
      · omega
      · omega
    · rcases hcase j lj h2 with ⟨b1, b2⟩ | ⟨b1, b2, b3⟩
      · omega
      · exact hi.inj i j li lj a2 b2 h3
  · by_cases e : b = w.heap.size
    · subst e
      by_cases g : o < (z - off) * k
      · simp only [I'] at h; rw [if_pos ⟨trivial, g⟩] at h
        simpa using h
      · simp only [I'] at h; rw [if_neg (by omega), hi.imm_new o] at h
        simp at h
    · rw [hI b o e] at h
      rw [World.cell?_alloc_lt w _ ⟨b, o, none⟩ (hi.imm_lt h)]; exact hi.imm b o v h

/-- More cells are known never to change. -/
def Grows (I I' : Imm) : Prop := ∀ b o v, I b o = some v → I' b o = some v

theorem Grows.refl (I : Imm) : Grows I I := fun _ _ _ h => h
theorem Grows.trans {I I' I'' : Imm} (h : Grows I I') (h' : Grows I' I'') : Grows I I'' := fun b o v e => h' b o v (h b o v e)
theorem Grows.ext {I I' : Imm} (h : Grows I I') (L : List Lay) : Ext I L I' L := ⟨h, (Ext.refl I L).lay⟩

theorem Inv.mark (hi : Inv B0 w0 I H L w) {id k : Nat} {els : List AV} {z n : Nat} (hr : getRow H id = some (k, els, z)) (hn : n ≤ els.length) :
    ∃ I', Inv B0 w0 I' (mark H id n) L w ∧ Grows I I' ∧
      ∀ l cs T, L[id]? = some l → w.heap[l.b]? = some (.cells cs T) → ∀ c, l.o ≤ c → c < l.o + (n - l.sh) * k → I' l.b c = cs[c]? := by
  have hm := getRow_eq hr
  obtain ⟨l, hl, hb⟩ := hi.row hr
  obtain ⟨cs, T, f1, f2, f3, f4⟩ := hb.blk
  have hid : id < L.length := (List.getElem?_eq_some_iff.1 hl).1
  let I' : Imm := fun b o => if b = l.b ∧ l.o ≤ o ∧ o < l.o + (max z n - l.sh) * k then cs[o]? else I b o
  have hI : ∀ b o, b ≠ l.b → I' b o = I b o := fun b o h => by simp only [I']; rw [if_neg (by omega)]
  have hmul : ∀ a b : Nat, a ≤ b → a * k ≤ b * k := fun a b h => Nat.mul_le_mul_right k h
  have hg : Grows I I' := fun b o v h => by
    by_cases e : b = l.b
    · subst e
      simp only [I']
      split
      · rename_i g
        have := hi.imm l.b o v h
        rw [World.cell_of_heap f1] at this; exact this
      · exact h
    · rw [hI b o e]; exact h
  refine ⟨I', ⟨hi.below, hi.base, ?_, fun id2 m2 l2 hm2 hl2 => ?_, hi.inj, fun b o v h => ?_, fun b o h => by have := hb.hB; rw [hI b o (by omega)]; exact hi.old b o h⟩, hg, fun l2 cs2 T2 hl2 hc2 c g1 g2 => ?_⟩
  · simp only [Ev.mark, hr]; simp [hi.len]
  · simp only [Ev.mark, hr] at hm2
    by_cases e : id = id2
    · subst e
      rw [List.getElem?_set_self (by rw [← hi.len]; exact hid)] at hm2
      obtain rfl := Option.some.inj hm2
      rw [hl] at hl2; obtain rfl := Option.some.inj hl2
      refine ⟨hb.hk, hb.ht, hb.hsh, by have := hb.hz; omega, hb.hB, hb.wid, hb.fit, ⟨cs, T, f1, f2, fun i j x y g1 g2 g3 => ?_, fun c g1 g2 => ?_⟩, fun c g => ?_⟩
      · obtain ⟨v, e1, e2, e3⟩ := f3 i j x y g1 g2 g3
        exact ⟨v, e1, e2, e3.mono (hg.ext L)⟩
      · simp only [I']; rw [if_pos ⟨trivial, g1, g2⟩]
      · simp only [I']; rw [if_neg (by omega)]
        have := hmul (z - l.sh) (max z n - l.sh) (by omega)
        exact hb.free c (by omega)
    · rw [List.getElem?_set_ne e] at hm2
      have h1 := hi.blk id2 m2 l2 hm2 hl2
      have hne : l2.b ≠ l.b := fun h => e (hi.inj id id2 l l2 hl hl2 h.symm)
      exact MbOk.mono (hg.ext L) (fun c => hI _ _ hne) h1
  · simp only [I'] at h
    split at h
    · rename_i g
      obtain ⟨rfl, _, _⟩ := g
      rw [World.cell_of_heap f1]; exact h
    · exact hi.imm b o v h
  · rw [hl] at hl2; obtain rfl := Option.some.inj hl2
    rw [f1] at hc2; simp at hc2; obtain ⟨rfl, rfl⟩ := hc2
    simp only [I']
    have := hmul (n - l.sh) (max z n - l.sh) (by omega)
    rw [if_pos ⟨trivial, g1, by omega⟩]

/-- From now on, whatever the one stands for the other does, too. -/
def Later (I : Imm) (L : List Lay) (x y : AV) : Prop := ∀ I', Grows I I' → ∀ v, Rep I' L x v → Rep I' L y v

theorem Later.refl (I : Imm) (L : List Lay) (x : AV) : Later I L x x := fun _ _ _ h => h
theorem Later.mono {I I' : Imm} {x y : AV} (hg : Grows I I') (h : Later I L x y) : Later I' L x y := fun I'' h' v hr => h I'' (hg.trans h') v hr

/-- Cell by cell. -/
def LaterC (I : Imm) (L : List Lay) (x y : AV) : Prop :=
  y.cells.length = x.cells.length ∧ ∀ (j : Nat) (a b : AV), x.cells[j]? = some a → y.cells[j]? = some b → Later I L a b

def LaterL (I : Imm) (L : List Lay) (xs ys : List AV) : Prop :=
  ys.length = xs.length ∧ ∀ (i : Nat) (x y : AV), xs[i]? = some x → ys[i]? = some y → Later I L x y ∧ LaterC I L x y

theorem LaterC.mono {I I' : Imm} {x y : AV} (hg : Grows I I') (h : LaterC I L x y) : LaterC I' L x y := ⟨h.1, fun j a b h1 h2 => (h.2 j a b h1 h2).mono hg⟩
theorem LaterL.mono {I I' : Imm} {xs ys : List AV} (hg : Grows I I') (h : LaterL I L xs ys) : LaterL I' L xs ys :=
  ⟨h.1, fun i x y h1 h2 => ⟨(h.2 i x y h1 h2).1.mono hg, (h.2 i x y h1 h2).2.mono hg⟩⟩

theorem LaterC.of_one {I : Imm} {x y : AV} (hx : x.cells = [x]) (hy : y.cells = [y]) (h : Later I L x y) : LaterC I L x y := by
  refine ⟨by rw [hx, hy]; rfl, fun j a b h1 h2 => ?_⟩
  rw [hx] at h1; rw [hy] at h2
  match j, h1, h2 with
  | 0, h1, h2 => simp at h1 h2; subst h1; subst h2; exact h
  | j + 1, h1, h2 => simp at h1

theorem LaterL.get {I : Imm} {xs ys : List AV} (h : LaterL I L xs ys) {i : Nat} {y : AV} (hy : ys[i]? = some y) : ∃ x, xs[i]? = some x ∧ Later I L x y ∧ LaterC I L x y := by
  have hi : i < xs.length := by rw [← h.1]; exact (List.getElem?_eq_some_iff.1 hy).1
  exact ⟨_, List.getElem?_eq_getElem hi, h.2 i _ y (List.getElem?_eq_getElem hi) hy⟩

theorem LaterL.sl {I : Imm} {xs ys : List AV} (h : LaterL I L xs ys) (t : Bool) : Later I L (.sl t xs) (.sl false ys) := by
  intro I' hg v hr
  generalize hx : AV.sl t xs = x at hr
  cases hr with
  | nilsl t' =>
    simp at hx
    obtain ⟨rfl, rfl⟩ := hx
    have h1 := h.1
    simp at h1
    subst h1
    exact .nilsl false
  | sl t' xs' b o c k f hc ht hk hI hR =>
    simp at hx
    obtain ⟨rfl, rfl⟩ := hx
    rw [← h.1]
    refine .sl false ys b o c k f (by rw [h.1]; exact hc) (fun h => by cases h) (fun y hy => ?_) (fun i j y b' h1 h2 => ?_) (fun i j y b' h1 h2 => ?_)
    · obtain ⟨i, hi⟩ := List.getElem?_of_mem hy
      obtain ⟨x, e1, _, e2⟩ := h.get hi
      rw [e2.1]; exact hk x (List.mem_of_getElem? e1)
    · obtain ⟨x, e1, _, e2⟩ := h.get h1
      have hj : j < x.cells.length := by rw [← e2.1]; exact (List.getElem?_eq_some_iff.1 h2).1
      exact hI i j x _ e1 (List.getElem?_eq_getElem hj)
    · obtain ⟨x, e1, _, e2⟩ := h.get h1
      have hj : j < x.cells.length := by rw [← e2.1]; exact (List.getElem?_eq_some_iff.1 h2).1
      exact e2.2 j _ b' (List.getElem?_eq_getElem hj) h2 I' hg _ (hR i j x _ e1 (List.getElem?_eq_getElem hj))
  | _ => cases hx

theorem LaterL.pt {I : Imm} {xs ys : List AV} (h : LaterL I L xs ys) : Later I L (.pt xs) (.pt ys) := by
  intro I' hg v hr
  cases hr with
  | pt cs b o f hI hR =>
    refine .pt ys b o f (fun j y h1 => ?_) (fun j y h1 => ?_)
    · obtain ⟨x, e1, _, _⟩ := h.get h1
      exact hI j x e1
    · obtain ⟨x, e1, e2, _⟩ := h.get h1
      exact e2 I' hg _ (hR j x e1)

theorem LaterL.agg {I : Imm} {xs ys : List AV} (h : LaterL I L xs ys) : Later I L (.agg xs) (.agg ys) := by
  intro I' hg v hr
  cases hr with
  | agg cs ws hn hs hR =>
    refine .agg ys ws (by rw [hn]; exact h.1.symm) hs (fun j y h1 => ?_)
    obtain ⟨x, e1, e2, _⟩ := h.get h1
    exact e2 I' hg _ (hR j x e1)

theorem LaterL.tup {I : Imm} {xs ys : List AV} (h : LaterL I L xs ys) : Later I L (.tup xs) (.tup ys) := by
  intro I' hg v hr
  cases hr with
  | tup cs ws hn hR =>
    refine .tup ys ws (by rw [hn]; exact h.1.symm) (fun j y h1 => ?_)
    obtain ⟨x, e1, e2, _⟩ := h.get h1
    exact e2 I' hg _ (hR j x e1)

/-- What a run of `fz` leaves. -/
def FzOk (B0 : Nat) (w0 : Base) (L : List Lay) (w : World) (I : Imm) (H' : List MB) (xs ys : List AV) : Prop :=
  ∃ I', Inv B0 w0 I' H' L w ∧ Grows I I' ∧ LaterL I' L xs ys

def FzA (B0 : Nat) (w0 : Base) (L : List Lay) (w : World) (I : Imm) (H' : List MB) (x y : AV) : Prop :=
  ∃ I', Inv B0 w0 I' H' L w ∧ Grows I I' ∧ Later I' L x y ∧ LaterC I' L x y

def JumpOk (B0 : Nat) (w0 : Base) (L : List Lay) (w : World) (jump : List AV → List MB → Option (List AV × List MB)) : Prop :=
  ∀ I H xs ys H', Inv B0 w0 I H L w → jump xs H = some (ys, H') → FzOk B0 w0 L w I H' xs ys

theorem LaterL.nil (I : Imm) (L : List Lay) : LaterL I L [] [] := ⟨rfl, fun i x y h => by simp at h⟩

theorem LaterL.cons {I : Imm} {x y : AV} {xs ys : List AV} (h1 : Later I L x y) (h2 : LaterC I L x y) (h : LaterL I L xs ys) : LaterL I L (x :: xs) (y :: ys) := by
  refine ⟨by simp [h.1], fun i a b e1 e2 => ?_⟩
  match i, e1, e2 with
  | 0, e1, e2 => simp at e1 e2; subst e1; subst e2; exact ⟨h1, h2⟩
  | i + 1, e1, e2 => simp at e1 e2; exact h.2 i a b e1 e2

theorem LaterL.aggC {I : Imm} {xs ys : List AV} (h : LaterL I L xs ys) : LaterC I L (.agg xs) (.agg ys) :=
  ⟨h.1, fun j a b h1 h2 => (h.2 j a b h1 h2).1⟩

mutual
theorem fzA_sound {jump} (hj : JumpOk B0 w0 L w jump) : ∀ (x : AV) {I : Imm} {H : List MB} {y : AV} {H' : List MB}, Inv B0 w0 I H L w → fzA jump x H = some (y, H') → FzA B0 w0 L w I H' x y
  | .sl t xs, I, H, y, H', hi, h => by
    simp only [fzA] at h
    split at h
    · rename_i ys H1 he
      simp at h; obtain ⟨rfl, rfl⟩ := h
      obtain ⟨I', h1, h2, h3⟩ := fzL_sound hj xs hi he
      exact ⟨I', h1, h2, h3.sl t, .of_one rfl rfl (h3.sl t)⟩
    · simp at h
  | .pt xs, I, H, y, H', hi, h => by
    simp only [fzA] at h
    split at h
    · rename_i ys H1 he
      simp at h; obtain ⟨rfl, rfl⟩ := h
      obtain ⟨I', h1, h2, h3⟩ := fzL_sound hj xs hi he
      exact ⟨I', h1, h2, h3.pt, .of_one rfl rfl h3.pt⟩
    · simp at h
  | .agg xs, I, H, y, H', hi, h => by
    simp only [fzA] at h
    split at h
    · rename_i ys H1 he
      simp at h; obtain ⟨rfl, rfl⟩ := h
      obtain ⟨I', h1, h2, h3⟩ := fzL_sound hj xs hi he
      exact ⟨I', h1, h2, h3.agg, h3.aggC⟩
    · simp at h
  | .tup xs, I, H, y, H', hi, h => by
    simp only [fzA] at h
    split at h
    · rename_i ys H1 he
      simp at h; obtain ⟨rfl, rfl⟩ := h
      obtain ⟨I', h1, h2, h3⟩ := fzL_sound hj xs hi he
      exact ⟨I', h1, h2, h3.tup, .of_one rfl rfl h3.tup⟩
    · simp at h
  | .ms id k tot off len, I, H, y, H', hi, h => by
    simp only [fzA] at h
    split at h
    · rename_i k' els z hrow
      split at h
      · rename_i hc
        obtain ⟨c1, c2, c3⟩ := hc
        split at h
        · rename_i ys H1 he
          simp at h; obtain ⟨rfl, rfl⟩ := h
          obtain ⟨I1, m1, m2, m3⟩ := hi.mark hrow (n := off + len) (by omega)
          obtain ⟨I2, j1, j2, j3⟩ := hj _ _ _ _ _ m1 he
          obtain ⟨l, hl, hb⟩ := hi.row hrow
          obtain ⟨cs, T, f1, f2, f3, f4⟩ := hb.blk
          have hlay : Later I2 L (.ms id k tot off len) (.sl false ys) := by
            intro I3 hg v hr
            refine j3.sl false I3 hg v ?_
            cases hr with
            | ms _ _ _ _ _ l2 b o c hL ht hk hl2 hlc hv =>
              rw [hl] at hL; obtain rfl := Option.some.inj hL
              obtain ⟨v1, v2, v3, v4, v5⟩ := hv (by rw [hb.ht]; exact c1.symm)
              subst v2; subst c2
              by_cases hl0 : len = 0
              · subst hl0
                have := Rep.sl (I := I3) (L := L) false [] l.b o c k' (fun _ _ => undef) (Nat.zero_le _) (fun h => by cases h) (fun x hx => by simp at hx) (fun i j x y h => by simp at h) (fun i j x y h => by simp at h)
                simpa using this
              have v3 := v3 (by omega)
              subst v3
              have hlen : ((els.drop off).take len).length = len := by simp; omega
              have hget : ∀ (i : Nat) (x : AV), ((els.drop off).take len)[i]? = some x → i < len ∧ els[off + i]? = some x := by
                intro i x hx
                rw [List.getElem?_take] at hx
                split at hx
                · rename_i hlt
                  rw [List.getElem?_drop] at hx
                  exact ⟨hlt, hx⟩
                · simp at hx
              have key : ∀ (i j : Nat) (x y : AV), ((els.drop off).take len)[i]? = some x → x.cells[j]? = some y →
                  ∃ v, cs[l.o + (off - l.sh) * k' + i * k' + j]? = some v ∧ scal v = true ∧ Rep I L y v ∧ I3 l.b (l.o + (off - l.sh) * k' + i * k' + j) = some v := by
                intro i j x y hx hy
                obtain ⟨g1, g2⟩ := hget i x hx
                obtain ⟨v, e1, e2, e3⟩ := f3 (off + i) j x y g2 hy (by omega)
                have ej : j < k' := by
                  have := hb.wid x (List.mem_of_getElem? g2)
                  rw [← this]; exact (List.getElem?_eq_some_iff.1 hy).1
                have ea : (off + i - l.sh) * k' = (off - l.sh) * k' + i * k' := by
                  rw [← Nat.add_mul]; congr 1; omega
                rw [ea] at e1
                have eb : l.o + ((off - l.sh) * k' + i * k') + j = l.o + (off - l.sh) * k' + i * k' + j := by omega
                rw [eb] at e1
                refine ⟨v, e1, e2, e3, hg _ _ _ (j2 _ _ _ ?_)⟩
                rw [m3 l cs T hl f1 _ (by omega) ?_]
                · exact e1
                · have e4 : (off + len - l.sh) * k' = (off - l.sh) * k' + len * k' := by rw [← Nat.add_mul]; congr 1; omega
                  have e5 : (i + 1) * k' ≤ len * k' := Nat.mul_le_mul_right k' (by omega)
                  rw [Nat.add_mul] at e5
                  omega
              have hres : Rep I3 L (.sl false ((els.drop off).take len)) (.slice (some ⟨l.b, l.o + (off - l.sh) * k', none⟩) ((els.drop off).take len).length c) := by
                refine .sl false _ l.b _ c k' (fun i j => cs.getD (l.o + (off - l.sh) * k' + i * k' + j) undef) (by rw [hlen]; omega) (fun h => by cases h) (fun x hx => ?_) (fun i j x y hx hy => ?_) (fun i j x y hx hy => ?_)
                · obtain ⟨i, hi'⟩ := List.getElem?_of_mem hx
                  exact hb.wid x (List.mem_of_getElem? (hget i x hi').2)
                · obtain ⟨v, e1, e2, e3, e4⟩ := key i j x y hx hy
                  have ev : cs.getD (l.o + (off - l.sh) * k' + i * k' + j) undef = v := by simp [Array.getD_eq_getD_getElem?, e1]
                  rw [ev]; exact ⟨e4, e2⟩
                · obtain ⟨v, e1, e2, e3, e4⟩ := key i j x y hx hy
                  have ev : cs.getD (l.o + (off - l.sh) * k' + i * k' + j) undef = v := by simp [Array.getD_eq_getD_getElem?, e1]
                  rw [ev]; exact e3.mono (((m2.trans j2).trans hg).ext L)
              rw [hlen] at hres
              exact hres
          exact ⟨I2, j1, m2.trans j2, hlay, .of_one rfl rfl hlay⟩
        · simp at h
      · simp at h
    · simp at h
  | .top, I, H, y, H', hi, h => by simp only [fzA] at h; simp at h; obtain ⟨rfl, rfl⟩ := h; exact ⟨I, hi, .refl I, .refl _ _ _, .of_one rfl rfl (.refl _ _ _)⟩
  | .int _ _, I, H, y, H', hi, h => by simp only [fzA] at h; simp at h; obtain ⟨rfl, rfl⟩ := h; exact ⟨I, hi, .refl I, .refl _ _ _, .of_one rfl rfl (.refl _ _ _)⟩
  | .bool _, I, H, y, H', hi, h => by simp only [fzA] at h; simp at h; obtain ⟨rfl, rfl⟩ := h; exact ⟨I, hi, .refl I, .refl _ _ _, .of_one rfl rfl (.refl _ _ _)⟩
  | .str _, I, H, y, H', hi, h => by simp only [fzA] at h; simp at h; obtain ⟨rfl, rfl⟩ := h; exact ⟨I, hi, .refl I, .refl _ _ _, .of_one rfl rfl (.refl _ _ _)⟩
  | .nilp, I, H, y, H', hi, h => by simp only [fzA] at h; simp at h; obtain ⟨rfl, rfl⟩ := h; exact ⟨I, hi, .refl I, .refl _ _ _, .of_one rfl rfl (.refl _ _ _)⟩
  | .nilf, I, H, y, H', hi, h => by simp only [fzA] at h; simp at h; obtain ⟨rfl, rfl⟩ := h; exact ⟨I, hi, .refl I, .refl _ _ _, .of_one rfl rfl (.refl _ _ _)⟩
  | .nili, I, H, y, H', hi, h => by simp only [fzA] at h; simp at h; obtain ⟨rfl, rfl⟩ := h; exact ⟨I, hi, .refl I, .refl _ _ _, .of_one rfl rfl (.refl _ _ _)⟩
  | .nilm, I, H, y, H', hi, h => by simp only [fzA] at h; simp at h; obtain ⟨rfl, rfl⟩ := h; exact ⟨I, hi, .refl I, .refl _ _ _, .of_one rfl rfl (.refl _ _ _)⟩
  | .rf id tot i j, I, H, y, H', hi, h => by
    simp only [fzA] at h
    split at h
    · rename_i k els z hrow
      split at h
      · rename_i hc
        split at h
        · rename_i x hx
          split at h
          · rename_i ys H1 he
            simp at h; obtain ⟨rfl, rfl⟩ := h
            have hil : i < els.length := (List.getElem?_eq_some_iff.1 hx).1
            obtain ⟨I1, m1, m2, m3⟩ := hi.mark hrow (n := i + 1) (by omega)
            obtain ⟨I2, j1, j2, j3⟩ := hj _ _ _ _ _ m1 he
            obtain ⟨l, hl, hb⟩ := hi.row hrow
            obtain ⟨cs, T, f1, f2, f3, f4⟩ := hb.blk
            have hxk : x.cells.length = k := hb.wid x (List.mem_of_getElem? hx)
            have hlay : Later I2 L (.rf id tot i j) (.pt ys) := by
              intro I3 hg v hr
              refine j3.pt I3 hg v ?_
              cases hr with
              | rf _ _ _ _ l2 b o hL ht hv =>
                rw [hl] at hL; obtain rfl := Option.some.inj hL
                obtain ⟨v1, v2, v3⟩ := hv (by rw [hb.ht]; exact hc.symm)
                subst v2; subst v3
                have key : ∀ (q : Nat) (y : AV), (x.cells.drop j)[q]? = some y →
                    ∃ v, cs[l.o + (i - l.sh) * k + (j + q)]? = some v ∧ scal v = true ∧ Rep I L y v ∧ I3 l.b (l.o + (i - l.sh) * k + (j + q)) = some v := by
                  intro q y hy
                  rw [List.getElem?_drop] at hy
                  obtain ⟨v, e1, e2, e3⟩ := f3 i (j + q) x y hx hy v1
                  have ej : j + q < k := by rw [← hxk]; exact (List.getElem?_eq_some_iff.1 hy).1
                  refine ⟨v, e1, e2, e3, hg _ _ _ (j2 _ _ _ ?_)⟩
                  rw [m3 l cs T hl f1 _ (by omega) ?_]
                  · exact e1
                  · have e4 : (i + 1 - l.sh) * k = (i - l.sh) * k + k := by
                      rw [show i + 1 - l.sh = (i - l.sh) + 1 by omega, Nat.add_mul, Nat.one_mul]
                    omega
                have hkk : l.k = k := hb.hk
                rw [hkk]
                refine .pt _ l.b _ (fun q => cs.getD (l.o + (i - l.sh) * k + (j + q)) undef) (fun q y hy => ?_) (fun q y hy => ?_)
                · obtain ⟨v, e1, e2, e3, e4⟩ := key q y hy
                  have ev : cs.getD (l.o + (i - l.sh) * k + (j + q)) undef = v := by simp [Array.getD_eq_getD_getElem?, e1]
                  simp only [ev]
                  exact ⟨by rw [← e4]; congr 1; omega, e2⟩
                · obtain ⟨v, e1, e2, e3, e4⟩ := key q y hy
                  have ev : cs.getD (l.o + (i - l.sh) * k + (j + q)) undef = v := by simp [Array.getD_eq_getD_getElem?, e1]
                  simp only [ev]; exact e3.mono (((m2.trans j2).trans hg).ext L)
            exact ⟨I2, j1, m2.trans j2, hlay, .of_one rfl rfl hlay⟩
          · simp at h
        · simp at h
      · simp at h
    · simp at h
  | .mpr _, I, H, y, H', hi, h => by simp only [fzA] at h; simp at h; obtain ⟨rfl, rfl⟩ := h; exact ⟨I, hi, .refl I, .refl _ _ _, .of_one rfl rfl (.refl _ _ _)⟩
  | .clo _ _, I, H, y, H', hi, h => by simp only [fzA] at h; simp at h; obtain ⟨rfl, rfl⟩ := h; exact ⟨I, hi, .refl I, .refl _ _ _, .of_one rfl rfl (.refl _ _ _)⟩
  | .ifc _ _, I, H, y, H', hi, h => by simp only [fzA] at h; simp at h; obtain ⟨rfl, rfl⟩ := h; exact ⟨I, hi, .refl I, .refl _ _ _, .of_one rfl rfl (.refl _ _ _)⟩
theorem fzL_sound {jump} (hj : JumpOk B0 w0 L w jump) : ∀ (xs : List AV) {I : Imm} {H : List MB} {ys : List AV} {H' : List MB}, Inv B0 w0 I H L w → fzL jump xs H = some (ys, H') → FzOk B0 w0 L w I H' xs ys
  | [], I, H, ys, H', hi, h => by
    simp only [fzL] at h; simp at h; obtain ⟨rfl, rfl⟩ := h
    exact ⟨I, hi, .refl I, .nil _ _⟩
  | x :: xs, I, H, ys, H', hi, h => by
    simp only [fzL] at h
    split at h
    · rename_i y H1 he
      split at h
      · rename_i ys1 H2 he2
        simp at h; obtain ⟨rfl, rfl⟩ := h
        obtain ⟨I1, a1, a2, a3, a4⟩ := fzA_sound hj x hi he
        obtain ⟨I2, b1, b2, b3⟩ := fzL_sound hj xs a1 he2
        exact ⟨I2, b1, a2.trans b2, .cons (a3.mono b2) (a4.mono b2) b3⟩
      · simp at h
    · simp at h
end

theorem fzJ_sound : ∀ n, JumpOk B0 w0 L w (fzJ n)
  | 0 => fun I H xs ys H' _ h => by simp [fzJ] at h
  | n + 1 => fun I H xs ys H' hi h => fzL_sound (fzJ_sound n) xs hi h

theorem fz_sound (hi : Inv B0 w0 I H L w) {x y : AV} {H' : List MB} (h : fz x H = some (y, H')) : FzA B0 w0 L w I H' x y := fzA_sound (fzJ_sound 6) x hi h
theorem fzs_sound (hi : Inv B0 w0 I H L w) {xs ys : List AV} {H' : List MB} (h : fzs xs H = some (ys, H')) : FzOk B0 w0 L w I H' xs ys := fzL_sound (fzJ_sound 6) xs hi h

end Go.Ev
