/- What an abstract value says of a value in memory, and what is kept from step to step. -/
import Derived.Test.YtpbobopcmhpbbaaEvCore
set_option linter.unusedVariables false
set_option linter.unusedSimpArgs false
namespace Go.Ev
open Go.RowKit

/-- The value of one cell. -/
def scal (v : Value) : Bool := v.oneCell'

/-- Where a block of our own lies: elements of k cells, tot of them, in block b (of n cells in all) from cell o on; the first sh elements lie there no more. -/
structure Lay where
  k : Nat
  tot : Nat
  b : Nat
  n : Nat
  o : Nat
  sh : Nat

abbrev Imm := Nat → Nat → Option Value

inductive Rep (I : Imm) (L : List Lay) : AV → Value → Prop where
  | top (v : Value) : Rep I L .top v
  | int (k : IntKind) (n : Int) : Rep I L (.int k n) (.int k n)
  | bool (b : Bool) : Rep I L (.bool b) (.bool b)
  | str (s : ByteArray) : Rep I L (.str s) (.string s)
  | nilp : Rep I L .nilp (.pointer none)
  | nilf : Rep I L .nilf .nilFunc
  | nili : Rep I L .nili .nilIface
  | nilm : Rep I L .nilm (.map none)
  | nilsl (t : Bool) : Rep I L (.sl t []) (.slice none 0 0)
  | sl (t : Bool) (xs : List AV) (b o c k : Nat) (f : Nat → Nat → Value) (hc : xs.length ≤ c) (ht : t = true → c = xs.length) (hk : ∀ x ∈ xs, x.cells.length = k)
      (hI : ∀ i j x y, xs[i]? = some x → x.cells[j]? = some y → I b (o + i * k + j) = some (f i j) ∧ scal (f i j) = true)
      (hR : ∀ i j x y, xs[i]? = some x → x.cells[j]? = some y → Rep I L y (f i j)) : Rep I L (.sl t xs) (.slice (some ⟨b, o, none⟩) xs.length c)
  | pt (cs : List AV) (b o : Nat) (f : Nat → Value) (hI : ∀ j y, cs[j]? = some y → I b (o + j) = some (f j) ∧ scal (f j) = true)
      (hR : ∀ j y, cs[j]? = some y → Rep I L y (f j)) : Rep I L (.pt cs) (.pointer (some ⟨b, o, none⟩))
  | rf (id tot i j : Nat) (l : Lay) (b o : Nat) (hL : L[id]? = some l) (ht : tot ≤ l.tot) (hv : tot = l.tot → l.sh ≤ i ∧ b = l.b ∧ o = l.o + (i - l.sh) * l.k + j) :
      Rep I L (.rf id tot i j) (.pointer (some ⟨b, o, none⟩))
  | ms (id k tot off len : Nat) (l : Lay) (b o c : Nat) (hL : L[id]? = some l) (ht : tot ≤ l.tot) (hk : l.k = k) (hl : off + len ≤ tot) (hc : len ≤ c)
      (hv : tot = l.tot → l.sh ≤ off ∧ b = l.b ∧ (c ≠ 0 → o = l.o + (off - l.sh) * k) ∧ tot ≤ off + c ∧ l.o + (off - l.sh + c) * k ≤ l.n) :
      Rep I L (.ms id k tot off len) (.slice (some ⟨b, o, none⟩) len c)
  | clo (f : Nat) (cs : List AV) (ws : Array Value) (hn : ws.size = cs.length) (hR : ∀ i y, cs[i]? = some y → Rep I L y (ws.getD i undef)) : Rep I L (.clo f cs) (.func (.func f) #[] ws)
  | agg (cs : List AV) (ws : Array Value) (hn : ws.size = cs.length) (hs : ∀ i, i < ws.size → scal (ws.getD i undef) = true) (hR : ∀ i y, cs[i]? = some y → Rep I L y (ws.getD i undef)) :
      Rep I L (.agg cs) (.agg ws)
  | tup (cs : List AV) (ws : Array Value) (hn : ws.size = cs.length) (hR : ∀ i y, cs[i]? = some y → Rep I L y (ws.getD i undef)) : Rep I L (.tup cs) (.tuple ws)

/-- What was known stays known. -/
structure Ext (I : Imm) (L : List Lay) (I' : Imm) (L' : List Lay) : Prop where
  imm : ∀ b o v, I b o = some v → I' b o = some v
  lay : ∀ (id : Nat) (l : Lay), L[id]? = some l → ∃ l' : Lay, L'[id]? = some l' ∧ l'.k = l.k ∧ l.tot ≤ l'.tot ∧ (l'.tot = l.tot → l' = l)

theorem Ext.refl (I : Imm) (L : List Lay) : Ext I L I L := ⟨fun _ _ _ h => h, fun _ l h => ⟨l, h, rfl, Nat.le_refl _, fun _ => rfl⟩⟩

theorem Ext.trans {I L I' L' I'' L''} (h : Ext I L I' L') (h' : Ext I' L' I'' L'') : Ext I L I'' L'' :=
  ⟨fun b o v e => h'.imm b o v (h.imm b o v e), fun id l e => by
    obtain ⟨l1, e1, k1, t1, s1⟩ := h.lay id l e
    obtain ⟨l2, e2, k2, t2, s2⟩ := h'.lay id l1 e1
    refine ⟨l2, e2, k2.trans k1, Nat.le_trans t1 t2, fun e3 => ?_⟩
    have e4 : l1.tot = l.tot := by omega
    rw [← s1 e4]; exact s2 (by omega)⟩

theorem Rep.mono {I L I' L'} (hx : Ext I L I' L') {a : AV} {v : Value} (h : Rep I L a v) : Rep I' L' a v := by
  induction h with
  | top v => exact .top v
  | int k n => exact .int k n
  | bool b => exact .bool b
  | str s => exact .str s
  | nilp => exact .nilp
  | nilf => exact .nilf
  | nili => exact .nili
  | nilm => exact .nilm
  | nilsl t => exact .nilsl t
  | sl t xs b o c k f hc ht hk hI _ ih => exact .sl t xs b o c k f hc ht hk (fun i j x y h1 h2 => ⟨hx.imm _ _ _ (hI i j x y h1 h2).1, (hI i j x y h1 h2).2⟩) ih
  | pt cs b o f hI _ ih => exact .pt cs b o f (fun j y h1 => ⟨hx.imm _ _ _ (hI j y h1).1, (hI j y h1).2⟩) ih
  | rf id tot i j l b o hL ht hv =>
    obtain ⟨l', e, k', t', s'⟩ := hx.lay id l hL
    refine .rf id tot i j l' b o e (by omega) fun e2 => ?_
    have e3 : l'.tot = l.tot := by omega
    rw [s' e3]; exact hv (by omega)
  | ms id k tot off len l b o c hL ht hk hl hc hv =>
    obtain ⟨l', e, k', t', s'⟩ := hx.lay id l hL
    refine .ms id k tot off len l' b o c e (by omega) (by omega) hl hc fun e2 => ?_
    have e3 : l'.tot = l.tot := by omega
    rw [s' e3]; exact hv (by omega)
  | clo f cs ws hn _ ih => exact .clo f cs ws hn ih
  | agg cs ws hn hs _ ih => exact .agg cs ws hn hs ih
  | tup cs ws hn _ ih => exact .tup cs ws hn ih

theorem Rep.scal {I L} {a : AV} {v : Value} (h : Rep I L a v) (ha : a.ok = true) : scal v = true := by
  cases h <;> first | rfl | simp [AV.ok] at ha

theorem scal_cells {v : Value} (h : scal v = true) : v.cells = #[v] := by
  cases v <;> first | rfl | simp [Ev.scal, Value.oneCell'] at h

/-- Cell by cell. -/
theorem Rep.cells {I L} {a : AV} {v : Value} (h : Rep I L a v) (ha : a ≠ .top) :
    v.cells.size = a.cells.length ∧ ∀ i y, a.cells[i]? = some y → Rep I L y (v.cells.getD i undef) := by
  have one : ∀ (a : AV) (v : Value), Rep I L a v → a.cells = [a] → v.cells = #[v] →
      v.cells.size = a.cells.length ∧ ∀ i y, a.cells[i]? = some y → Rep I L y (v.cells.getD i undef) := by
    intro a v h e1 e2
    rw [e1, e2]
    refine ⟨rfl, fun i y hi => ?_⟩
    match i, hi with
    | 0, hi => simp at hi; subst hi; simpa using h
    | i + 1, hi => simp at hi
  cases h with
  | top v => exact absurd rfl ha
  | agg cs ws hn hs hR => exact ⟨hn, hR⟩
  | int k n => exact one _ _ (.int k n) rfl rfl
  | bool b => exact one _ _ (.bool b) rfl rfl
  | str s => exact one _ _ (.str s) rfl rfl
  | nilp => exact one _ _ .nilp rfl rfl
  | nilf => exact one _ _ .nilf rfl rfl
  | nili => exact one _ _ .nili rfl rfl
  | nilm => exact one _ _ .nilm rfl rfl
  | nilsl t => exact one _ _ (.nilsl t) rfl rfl
  | sl t xs b o c k f hc ht hk hI hR => exact one _ _ (.sl t xs b o c k f hc ht hk hI hR) rfl rfl
  | pt cs b o f hI hR => exact one _ _ (.pt cs b o f hI hR) rfl rfl
  | rf id tot i j l b o hL ht hv => exact one _ _ (.rf id tot i j l b o hL ht hv) rfl rfl
  | ms id k tot off len l b o c hL ht hk hl hc hv => exact one _ _ (.ms id k tot off len l b o c hL ht hk hl hc hv) rfl rfl
  | clo f cs ws hn hR => exact one _ _ (.clo f cs ws hn hR) rfl rfl
  | tup cs ws hn hR => exact one _ _ (.tup cs ws hn hR) rfl rfl

/-- All cells surely of one cell each: so are the values. -/
theorem Rep.cells_scal {I L} {a : AV} {v : Value} (h : Rep I L a v) (ha : a.cells.all AV.ok = true) :
    v.cells.size = a.cells.length ∧ ∀ i y, a.cells[i]? = some y → Rep I L y (v.cells.getD i undef) ∧ Ev.scal (v.cells.getD i undef) = true := by
  have hne : a ≠ .top := by rintro rfl; simp [AV.cells, AV.ok] at ha
  obtain ⟨h1, h2⟩ := h.cells hne
  refine ⟨h1, fun i y hi => ⟨h2 i y hi, (h2 i y hi).scal ?_⟩⟩
  exact List.all_eq_true.1 ha y (List.mem_of_getElem? hi)

/-- What is known of one block of our own. -/
structure BlkOk (B0 : Nat) (I : Imm) (L : List Lay) (w : World) (k : Nat) (els : List AV) (z : Nat) (l : Lay) : Prop where
  hk : l.k = k
  ht : l.tot = els.length
  hsh : l.sh ≤ els.length
  hz : z ≤ els.length
  hB : B0 ≤ l.b
  wid : ∀ x ∈ els, x.cells.length = k
  fit : l.o + (els.length - l.sh) * k ≤ l.n
  blk : ∃ cs T, w.heap[l.b]? = some (.cells cs T) ∧ cs.size = l.n ∧
    (∀ i j x y, els[i]? = some x → x.cells[j]? = some y → l.sh ≤ i → ∃ v, cs[l.o + (i - l.sh) * k + j]? = some v ∧ scal v = true ∧ Rep I L y v) ∧
    (∀ c, l.o ≤ c → c < l.o + (z - l.sh) * k → I l.b c = cs[c]?)
  free : ∀ c, l.o + (z - l.sh) * k ≤ c → I l.b c = none

def MbOk (B0 : Nat) (I : Imm) (L : List Lay) (w : World) : MB → Lay → Prop
  | .row k els z, l => BlkOk B0 I L w k els z l
  | .mp _, _ => False

/-- What was there when the call began, and what of it is known. -/
structure Base where
  w : World
  I : Imm

structure Inv (B0 : Nat) (w0 : Base) (I : Imm) (H : List MB) (L : List Lay) (w : World) : Prop where
  below : Below B0 w0.w w
  base : B0 ≤ w.heap.size
  len : L.length = H.length
  blk : ∀ (id : Nat) (m : MB) (l : Lay), H[id]? = some m → L[id]? = some l → MbOk B0 I L w m l
  inj : ∀ (i j : Nat) (l l' : Lay), L[i]? = some l → L[j]? = some l' → l.b = l'.b → i = j
  imm : ∀ b o v, I b o = some v → w.cell? ⟨b, o, none⟩ = some v
  old : ∀ b o, b < B0 → I b o = w0.I b o

theorem Inv.lay {B0 w0 I H L w} (h : Inv B0 w0 I H L w) {id : Nat} {m : MB} (hm : H[id]? = some m) : ∃ l, L[id]? = some l := by
  have : id < L.length := by
    rw [h.len]
    exact (List.getElem?_eq_some_iff.1 hm).1
  exact ⟨_, List.getElem?_eq_getElem this⟩

theorem getRow_eq {H : List MB} {id k els z} (h : getRow H id = some (k, els, z)) : H[id]? = some (.row k els z) := by
  unfold getRow at h
  split at h
  · simp at h; obtain ⟨rfl, rfl, rfl⟩ := h; assumption
  · simp at h

theorem Inv.row {B0 w0 I H L w} (h : Inv B0 w0 I H L w) {id k els z} (hr : getRow H id = some (k, els, z)) : ∃ l, L[id]? = some l ∧ BlkOk B0 I L w k els z l := by
  have hm := getRow_eq hr
  obtain ⟨l, hl⟩ := h.lay hm
  exact ⟨l, hl, h.blk id _ l hm hl⟩

theorem World.cell_of_heap {w : World} {b : Nat} {cs : Array Value} {T : TypeId} (h : w.heap[b]? = some (.cells cs T)) (o : Nat) : w.cell? ⟨b, o, none⟩ = cs[o]? := by
  simp [World.cell?, h]

theorem BlkOk.cell {B0 I L w k els z l} (h : BlkOk B0 I L w k els z l) {i j : Nat} {x y : AV} (hx : els[i]? = some x) (hy : x.cells[j]? = some y) (hs : l.sh ≤ i) :
    ∃ v, w.cell? ⟨l.b, l.o + (i - l.sh) * k + j, none⟩ = some v ∧ scal v = true ∧ Rep I L y v := by
  obtain ⟨cs, T, h1, h2, h3, h4⟩ := h.blk
  obtain ⟨v, e1, e2, e3⟩ := h3 i j x y hx hy hs
  exact ⟨v, by rw [World.cell_of_heap h1]; exact e1, e2, e3⟩

/-- A pointer that the evaluator can follow. -/
theorem cellsAt_sound {B0 w0 I H L w} (hi : Inv B0 w0 I H L w) {a : AV} {v : Value} (hr : Rep I L a v) {cs : List AV} (h : cellsAt H a = some cs) :
    ∃ b o, v = .pointer (some ⟨b, o, none⟩) ∧ ∀ j y, cs[j]? = some y → ∃ u, w.cell? ⟨b, o + j, none⟩ = some u ∧ scal u = true ∧ Rep I L y u := by
  unfold cellsAt at h
  split at h
  · rename_i cs'
    simp at h; subst h
    cases hr with
    | pt _ b o f hI hR => exact ⟨b, o, rfl, fun j y hj => ⟨f j, hi.imm _ _ _ (hI j y hj).1, (hI j y hj).2, hR j y hj⟩⟩
  · rename_i id tot i j
    split at h
    · rename_i k els z hrow
      split at h
      · rename_i hlen
        split at h
        · rename_i x hx
          simp at h; subst h
          cases hr with
          | rf _ _ _ _ l b o hL ht hv =>
            obtain ⟨l', hl', hb⟩ := hi.row hrow
            have hll : l' = l := by rw [hL] at hl'; exact (Option.some.inj hl').symm
            subst hll
            obtain ⟨h1, h2, h3⟩ := hv (by rw [hb.ht]; exact hlen.symm)
            refine ⟨b, o, rfl, fun j' y hj => ?_⟩
            rw [List.getElem?_drop] at hj
            obtain ⟨u, e1, e2, e3⟩ := hb.cell hx hj h1
            refine ⟨u, ?_, e2, e3⟩
            rw [h2, h3, hb.hk]
            rw [← e1]; congr 2; omega
        · simp at h
      · simp at h
    · simp at h
  · simp at h

end Go.Ev
