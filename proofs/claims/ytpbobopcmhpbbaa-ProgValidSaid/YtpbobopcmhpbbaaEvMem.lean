/- What the steps on memory do to what is kept: a new block, a block's cells written, a block's elements marked as never written again. -/
import Derived.Test.YtpbobopcmhpbbaaEvRep
set_option linter.unusedVariables false
set_option linter.unusedSimpArgs false
namespace Go.Ev
open Go.RowKit

variable {B0 : Nat} {w0 : Base} {w : World} {I : Imm} {H : List MB} {L : List Lay}

theorem Inv.imm_lt (hi : Inv B0 w0 I H L w) {b o : Nat} {v : Value} (h : I b o = some v) : b < w.heap.size :=
  World.block_lt_of_cell? (w := w) (a := ⟨b, o, none⟩) (hi.imm b o v h)

theorem Inv.imm_new (hi : Inv B0 w0 I H L w) (o : Nat) : I w.heap.size o = none := by
  cases h : I w.heap.size o with
  | none => rfl
  | some v => exact absurd (hi.imm_lt h) (Nat.lt_irrefl _)

theorem Inv.lay_lt (hi : Inv B0 w0 I H L w) {id : Nat} {l : Lay} (h : L[id]? = some l) : l.b < w.heap.size := by
  have hid : id < H.length := by rw [← hi.len]; exact (List.getElem?_eq_some_iff.1 h).1
  have hm := hi.blk id H[id] l (List.getElem?_eq_getElem hid) h
  revert hm
  cases H[id] with
  | mp es => exact fun hm => hm.elim
  | row k els z =>
    intro hm
    obtain ⟨cs, T, e, _⟩ := BlkOk.blk hm
    exact (Array.getElem?_eq_some_iff.1 e).1

theorem _root_.Go.RowKit.Below.setRow' {B g : Nat} {w0 w : World} (hb : Below B w0 w) (hBg : B ≤ g) (cs : Array Value) : Below B w0 (w.setRow g cs) :=
  hb.trans ⟨rfl, rfl, rfl, by simp, fun k hk => setRow_other w g k cs (by omega)⟩

/-- A world whose blocks of ours, and whose cells that never change, are as they were. -/
theorem Inv.same (hi : Inv B0 w0 I H L w) {w' : World} (hb : Below B0 w0.w w') (hB : B0 ≤ w'.heap.size) (hs : ∀ b, b < w.heap.size → w'.heap[b]? = w.heap[b]?) : Inv B0 w0 I H L w' := by
  refine ⟨hb, hB, hi.len, fun id m l hm hl => ?_, hi.inj, fun b o v h => ?_, hi.old⟩
  · have h1 := hi.blk id m l hm hl
    have hlt := hi.lay_lt hl
    cases m with
    | mp es => exact h1
    | row k els z =>
      refine ⟨h1.hk, h1.ht, h1.hsh, h1.hz, h1.hB, h1.wid, h1.fit, ?_, h1.free⟩
      obtain ⟨cs, T, e, e2⟩ := BlkOk.blk h1
      exact ⟨cs, T, by rw [hs _ hlt]; exact e, e2⟩
  · have := hi.imm b o v h
    have hlt := hi.imm_lt h
    unfold World.cell? at this ⊢
    rw [hs b hlt]; exact this

theorem Inv.drew (hi : Inv B0 w0 I H L w) : Inv B0 w0 I H L w.drew := hi.same hi.below.drew hi.base (fun _ _ => rfl)

theorem ext_push (I : Imm) (L : List Lay) (l : Lay) : Ext I L I (L ++ [l]) :=
  ⟨fun _ _ _ h => h, fun id l' h => ⟨l', by rw [List.getElem?_append_left (List.getElem?_eq_some_iff.1 h).1]; exact h, rfl, Nat.le_refl _, fun _ => rfl⟩⟩

theorem MbOk.mono {I' : Imm} {L' : List Lay} (hx : Ext I L I' L') {m : MB} {l : Lay} (hI : ∀ c, I' l.b c = I l.b c) (h : MbOk B0 I L w m l) : MbOk B0 I' L' w m l := by
  cases m with
  | mp es => exact h
  | row k els z =>
    refine ⟨h.hk, h.ht, h.hsh, h.hz, h.hB, h.wid, h.fit, ?_, fun c hc => by rw [hI]; exact h.free c hc⟩
    obtain ⟨cs, T, e1, e2, e3, e4⟩ := BlkOk.blk h
    refine ⟨cs, T, e1, e2, fun i j x y hx' hy hs => ?_, fun c h1 h2 => by rw [hI]; exact e4 c h1 h2⟩
    obtain ⟨v, f1, f2, f3⟩ := e3 i j x y hx' hy hs
    exact ⟨v, f1, f2, f3.mono hx⟩

/-- A new block of ours. -/
theorem Inv.new (hi : Inv B0 w0 I H L w) (cs : Array Value) (T : TypeId) (k : Nat) (els : List AV) (hw : ∀ x ∈ els, x.cells.length = k) (hf : els.length * k ≤ cs.size)
    (hc : ∀ i j x y, els[i]? = some x → x.cells[j]? = some y → ∃ v, cs[i * k + j]? = some v ∧ scal v = true ∧ Rep I L y v) :
    Inv B0 w0 I (H ++ [.row k els 0]) (L ++ [⟨k, els.length, w.heap.size, cs.size, 0, 0⟩]) (w.alloc (.cells cs T)) ∧ Ext I L I (L ++ [⟨k, els.length, w.heap.size, cs.size, 0, 0⟩]) := by
  have hx := ext_push I L ⟨k, els.length, w.heap.size, cs.size, 0, 0⟩
  refine ⟨⟨hi.below.alloc hi.base _, by rw [World.size_alloc]; exact Nat.le_succ_of_le hi.base, by simp [hi.len], fun id m l hm hl => ?_, fun i j l l' h1 h2 h3 => ?_, fun b o v h => ?_, hi.old⟩, hx⟩
  · by_cases hid : id < L.length
    · rw [List.getElem?_append_left hid] at hl
      rw [List.getElem?_append_left (by rw [← hi.len]; exact hid)] at hm
      have h1 := hi.blk id m l hm hl
      have hlt := hi.lay_lt hl
      refine MbOk.mono hx (fun _ => rfl) ?_
      cases m with
      | mp es => exact h1
      | row k els z =>
        refine ⟨h1.hk, h1.ht, h1.hsh, h1.hz, h1.hB, h1.wid, h1.fit, ?_, h1.free⟩
        obtain ⟨cs', T', e, e2⟩ := BlkOk.blk h1
        exact ⟨cs', T', by rw [Below.heap_alloc _ _ _ hlt]; exact e, e2⟩
    · have hid' : id = L.length := by
        have := (List.getElem?_eq_some_iff.1 hl).1
        simp at this; omega
      subst hid'
      rw [List.getElem?_append_right (Nat.le_refl _)] at hl
      rw [hi.len, List.getElem?_append_right (Nat.le_refl _)] at hm
      simp at hl hm
      subst hl; subst hm
      refine ⟨rfl, rfl, Nat.zero_le _, Nat.zero_le _, hi.base, hw, by simpa using hf, ⟨cs, T, (MapKept.heap_alloc w _).1, rfl, fun i j x y h1 h2 _ => ?_, fun c _ h2 => by simp at h2⟩, fun c _ => hi.imm_new c⟩
      obtain ⟨v, e1, e2, e3⟩ := hc i j x y h1 h2
      exact ⟨v, by simpa using e1, e2, e3.mono hx⟩
  · by_cases h1' : i < L.length
    · rw [List.getElem?_append_left h1'] at h1
      by_cases h2' : j < L.length
      · rw [List.getElem?_append_left h2'] at h2
        exact hi.inj i j l l' h1 h2 h3
      · rw [List.getElem?_append_right (by omega)] at h2
        have := hi.lay_lt h1
        have h4 : l'.b = w.heap.size := by
          have := List.mem_of_getElem? h2
          simp at this; rw [this]
        omega
    · rw [List.getElem?_append_right (by omega)] at h1
      have h4 : l.b = w.heap.size := by
        have := List.mem_of_getElem? h1
        simp at this; rw [this]
      by_cases h2' : j < L.length
      · rw [List.getElem?_append_left h2'] at h2
        have := hi.lay_lt h2
        omega
      · have h5 := (List.getElem?_eq_some_iff.1 h1).1
        rw [List.getElem?_append_right (by omega)] at h2
        have h6 := (List.getElem?_eq_some_iff.1 h2).1
        simp at h5 h6; omega
  · have h1 := hi.imm b o v h
    have hlt := hi.imm_lt h
    rw [World.cell?_alloc_lt w _ ⟨b, o, none⟩ hlt]; exact h1

/-- A new block that never changes. -/
def immNew (I : Imm) (b : Nat) (cs : Array Value) : Imm := fun b' o => if b' = b then cs[o]? else I b' o

theorem Inv.newImm (hi : Inv B0 w0 I H L w) (cs : Array Value) (T : TypeId) :
    Inv B0 w0 (immNew I w.heap.size cs) H L (w.alloc (.cells cs T)) ∧ Ext I L (immNew I w.heap.size cs) L := by
  have hx : Ext I L (immNew I w.heap.size cs) L := by
    refine ⟨fun b o v h => ?_, (Ext.refl I L).lay⟩
    have := hi.imm_lt h
    unfold immNew
    rw [if_neg (by omega)]; exact h
  refine ⟨⟨hi.below.alloc hi.base _, by rw [World.size_alloc]; exact Nat.le_succ_of_le hi.base, hi.len, fun id m l hm hl => ?_, hi.inj, fun b o v h => ?_, fun b o h => ?_⟩, hx⟩
  · have h1 := hi.blk id m l hm hl
    have hlt := hi.lay_lt hl
    refine MbOk.mono hx (fun c => by unfold immNew; rw [if_neg (by omega)]) ?_
    cases m with
    | mp es => exact h1
    | row k els z =>
      refine ⟨h1.hk, h1.ht, h1.hsh, h1.hz, h1.hB, h1.wid, h1.fit, ?_, h1.free⟩
      obtain ⟨cs', T', e, e2⟩ := BlkOk.blk h1
      exact ⟨cs', T', by rw [Below.heap_alloc _ _ _ hlt]; exact e, e2⟩
  · unfold immNew at h
    split at h
    · rename_i e
      subst e
      simpa using h
    · have h1 := hi.imm b o v h
      have hlt := hi.imm_lt h
      rw [World.cell?_alloc_lt w _ ⟨b, o, none⟩ hlt]; exact h1
  · have := hi.base
    unfold immNew
    rw [if_neg (by omega)]; exact hi.old b o h

/-- A block of ours has been written: its cells now read as `els`. Its layout, too, may have turned (`l'`), if it has grown. -/
theorem Inv.write (hi : Inv B0 w0 I H L w) {id : Nat} {k : Nat} {els : List AV} {z : Nat} {l : Lay} (hm : H[id]? = some (.row k els z)) (hl : L[id]? = some l)
    (els' : List AV) (l' : Lay) (cs' : Array Value) {T : TypeId} {cs : Array Value} (hcs : w.heap[l.b]? = some (.cells cs T)) (hsz : cs'.size = cs.size)
    (e1 : l'.k = k) (e2 : l'.tot = els'.length) (e3 : l'.b = l.b) (e4 : l'.n = l.n) (e5 : l'.o = l.o) (e6 : l'.sh = l.sh) (hlen : els.length ≤ els'.length)
    (hw : ∀ x ∈ els', x.cells.length = k) (hf : l'.o + (els'.length - l'.sh) * k ≤ l'.n)
    (hz : ∀ c, c < l.o + (z - l.sh) * k → cs'[c]? = cs[c]?)
    (hc : ∀ i j x y, els'[i]? = some x → x.cells[j]? = some y → l.sh ≤ i → ∃ v, cs'[l.o + (i - l.sh) * k + j]? = some v ∧ scal v = true ∧ Rep I (L.set id l') y v) :
    Inv B0 w0 I (H.set id (.row k els' z)) (L.set id l') (w.setRow l.b cs') ∧ Ext I L I (L.set id l') := by
  have hid : id < L.length := (List.getElem?_eq_some_iff.1 hl).1
  have hb := hi.blk id _ l hm hl
  have hx : Ext I L I (L.set id l') := by
    refine ⟨fun _ _ _ h => h, fun id2 l2 h2 => ?_⟩
    by_cases e : id = id2
    · subst e
      rw [hl] at h2; obtain rfl := Option.some.inj h2
      refine ⟨l', by rw [List.getElem?_set_self hid], e1.trans hb.hk.symm, by rw [e2, hb.ht]; exact hlen, fun ht => ?_⟩
      have t1 := hb.hk
      cases l; cases l'; simp_all
    · exact ⟨l2, by rw [List.getElem?_set_ne e]; exact h2, rfl, Nat.le_refl _, fun _ => rfl⟩
  refine ⟨⟨hi.below.setRow' hb.hB _, by simp; exact hi.base, by simp [hi.len], fun id2 m2 l2 hm2 hl2 => ?_, fun i j li lj h1 h2 h3 => ?_, fun b o v h => ?_, hi.old⟩, hx⟩
  · by_cases e : id = id2
    · subst e
      rw [List.getElem?_set_self hid] at hl2
      rw [List.getElem?_set_self (by rw [← hi.len]; exact hid)] at hm2
      obtain rfl := Option.some.inj hl2
      obtain rfl := Option.some.inj hm2
      obtain ⟨cs0, T0, f1, f2, f3, f4⟩ := BlkOk.blk hb
      rw [hcs] at f1
      simp at f1
      obtain ⟨rfl, rfl⟩ := f1
      refine ⟨e1, e2, by rw [e6]; exact Nat.le_trans hb.hsh hlen, Nat.le_trans hb.hz hlen, by rw [e3]; exact hb.hB, hw, hf,
        ⟨cs', T, by rw [e3]; exact setRow_heap w l.b _ _ T _ hcs, by rw [hsz, f2, e4], fun i j x y g1 g2 g3 => by rw [e5, e6] at *; exact hc i j x y g1 g2 g3, fun c g1 g2 => ?_⟩, fun c g => ?_⟩
      · rw [e5, e6] at g2
        rw [e5] at g1
        rw [e3, hz c g2]; exact f4 c g1 g2
      · rw [e5, e6] at g
        rw [e3]; exact hb.free c g
    · rw [List.getElem?_set_ne e] at hl2 hm2
      have h1 := hi.blk id2 m2 l2 hm2 hl2
      have hne : l2.b ≠ l.b := fun h => e (hi.inj id id2 l l2 hl hl2 h.symm)
      refine MbOk.mono hx (fun _ => rfl) ?_
      cases m2 with
      | mp es => exact h1
      | row k els z =>
        refine ⟨h1.hk, h1.ht, h1.hsh, h1.hz, h1.hB, h1.wid, h1.fit, ?_, h1.free⟩
        obtain ⟨cs2, T2, g, g2⟩ := BlkOk.blk h1
        exact ⟨cs2, T2, by rw [setRow_other w l.b l2.b cs' hne]; exact g, g2⟩
  · have hb1 : ∀ (i : Nat) (li : Lay), (L.set id l')[i]? = some li → ∃ l0, L[i]? = some l0 ∧ l0.b = li.b := by
      intro i li h
      by_cases e : id = i
      · subst e
        rw [List.getElem?_set_self hid] at h
        obtain rfl := Option.some.inj h
        exact ⟨l, hl, e3.symm⟩
      · rw [List.getElem?_set_ne e] at h
        exact ⟨li, h, rfl⟩
    obtain ⟨a1, a2, a3⟩ := hb1 i li h1
    obtain ⟨b1, b2, b3⟩ := hb1 j lj h2
    exact hi.inj i j a1 b1 a2 b2 (by rw [a3, b3]; exact h3)
  · by_cases e : b = l.b
    · subst e
      obtain ⟨cs0, T0, f1, f2, f3, f4⟩ := BlkOk.blk hb
      rw [hcs] at f1
      simp at f1
      obtain ⟨rfl, rfl⟩ := f1
      have ho : o < l.o + (z - l.sh) * k := by
        rcases Nat.lt_or_ge o (l.o + (z - l.sh) * k) with g | g
        · exact g
        · rw [hb.free o g] at h; simp at h
      have h1 := hi.imm l.b o v h
      rw [World.cell_of_heap hcs] at h1
      rw [cell_setRow_same w l.b o _ _ T _ hcs, hz o ho]; exact h1
    · rw [cell_setRow_other w l.b cs' ⟨b, o, none⟩ e]; exact hi.imm b o v h

end Go.Ev
