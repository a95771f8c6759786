/- Single operations: those that only look. -/
import Derived.Test.YtpbobopcmhpbbaaEvFreeze
set_option linter.unusedVariables false
set_option linter.unusedSimpArgs false
namespace Go.Ev
open Go.RowKit

variable {P : Program} {B0 : Nat} {w0 : Base} {w : World} {I : Imm} {H : List MB} {L : List Lay}

theorem tySz_run {T : TypeId} {s : Nat} (h : tySz P T = some s) (w : World) : (sizeOf T).run P w = .ok s w := by
  unfold tySz at h
  cases hi : P.info? T with
  | none => rw [hi] at h; simp at h
  | some i => rw [hi] at h; simp at h; simp [sizeOf, typeInfo, hi, h]

theorem tyAgg_run {T : TypeId} {b : Bool} (h : tyAgg P T = some b) (w : World) : (isAgg T).run P w = .ok b w := by
  unfold tyAgg at h
  cases hu : P.underlying T with
  | none => rw [hu] at h; simp at h
  | some d => rw [hu] at h; simp at h; cases d <;> simp at h <;> subst h <;> simp [isAgg, run_underlying hu]

theorem tyElem_eq {T e : TypeId} (h : tyElem P T = some e) : P.underlying T = some (.slice e) := by
  unfold tyElem at h
  split at h
  · simp at h; subst h; assumption
  · simp at h

theorem tyArr_eq {T e : TypeId} {n : Nat} (h : tyArr P T = some (n, e)) : P.underlying T = some (.array n e) := by
  unfold tyArr at h
  split at h
  · simp at h; obtain ⟨rfl, rfl⟩ := h; assumption
  · simp at h

theorem tyInt_eq {T : TypeId} {k : IntKind} (h : tyInt P T = some k) : P.underlying T = some (.int k) := by
  unfold tyInt at h
  split at h
  · simp at h; subst h; assumption
  · simp at h

theorem tyStr_eq {T : TypeId} (h : tyStr P T = true) : P.underlying T = some .string := by
  unfold tyStr at h
  split at h
  · assumption
  · simp at h

theorem tyFld_eq {T : TypeId} {f off s : Nat} {ft : TypeId} (h : tyFld P T f = some (off, ft, s)) :
    ∃ fs d, P.underlying T = some (.struct fs) ∧ fs[f]? = some d ∧ d.offset = off ∧ d.type = ft ∧ tySz P ft = some s := by
  unfold tyFld at h
  split at h
  · rename_i fs hu
    split at h
    · rename_i d hd
      split at h
      · rename_i s' hs
        simp at h; obtain ⟨rfl, rfl, rfl⟩ := h
        exact ⟨fs, d, hu, hd, rfl, rfl, hs⟩
      · simp at h
    · simp at h
  · simp at h

theorem tyBytes_eq {T : TypeId} {s : Nat} (h : tyBytes P T = some s) : ∃ i, P.info? T = some i ∧ i.bytes = s := by
  unfold tyBytes at h
  cases hi : P.info? T with
  | none => rw [hi] at h; simp at h
  | some i => rw [hi] at h; simp at h; exact ⟨i, rfl, h⟩

/-- A value as the translation writes it. -/
theorem rep_ofC (v : Value) (hs : scal v = true) : Rep I L (ofC v) v := by
  cases v with
  | bool b => exact .bool b
  | int k n => exact .int k n
  | string s => exact .str s
  | pointer a => cases a with
    | none => exact .nilp
    | some a => exact .top _
  | nilFunc => exact .nilf
  | nilIface => exact .nili
  | map r => cases r with
    | none => exact .nilm
    | some r => exact .top _
  | slice a n c =>
    match a, n, c with
    | none, 0, 0 => exact .nilsl true
    | none, 0, c + 1 => exact .top _
    | none, n + 1, c => exact .top _
    | some a, n, c => exact .top _
  | func fn first cap =>
    cases fn with
    | func f =>
      show Rep I L (if first.size = 0 ∧ cap.size = 0 then .clo f [] else .top) _
      split
      · rename_i h
        obtain ⟨h1, h2⟩ := h
        have e1 : first = #[] := Array.size_eq_zero_iff.1 h1
        have e2 : cap = #[] := Array.size_eq_zero_iff.1 h2
        subst e1; subst e2
        exact .clo f [] #[] rfl (fun i y h => by simp at h)
      · exact .top _
    | _ => exact .top _
  | agg cs => simp [scal, Value.oneCell'] at hs
  | tuple vs => simp [scal, Value.oneCell'] at hs
  | _ => exact .top _

theorem rep_ofV (v : Value) (hs : ∀ cs, v = .agg cs → ∀ i, i < cs.size → scal (cs.getD i undef) = true) : Rep I L (ofV v) v := by
  cases v with
  | agg cs =>
    refine .agg _ cs (by simp) (hs cs rfl) (fun i y h => ?_)
    simp at h
    obtain ⟨a, h1, h2⟩ := h
    subst h2
    have hi : i < cs.size := by
      rcases Nat.lt_or_ge i cs.size with g | g
      · exact g
      · simp [Array.getElem?_eq_none g] at h1
    have e : cs.getD i undef = a := by simp [Array.getD_eq_getD_getElem?, h1]
    have h3 := hs cs rfl i hi
    rw [e] at h3 ⊢
    exact rep_ofC a h3
  | tuple vs =>
    show Rep I L (if vs.size = 0 then .tup [] else .top) _
    split
    · rename_i h
      have e1 : vs = #[] := Array.size_eq_zero_iff.1 h
      subst e1
      exact .tup [] #[] rfl (fun i y h => by simp at h)
    · exact .top _
  | bool b => exact rep_ofC (.bool b) rfl
  | int k n => exact rep_ofC (.int k n) rfl
  | string s => exact rep_ofC (.string s) rfl
  | pointer a => exact rep_ofC (.pointer a) rfl
  | nilFunc => exact rep_ofC .nilFunc rfl
  | nilIface => exact rep_ofC .nilIface rfl
  | map r => exact rep_ofC (.map r) rfl
  | slice a n c => exact rep_ofC (.slice a n c) rfl
  | func fn first cap => exact rep_ofC (.func fn first cap) rfl
  | _ => exact .top _

/-- Memory from an address on reads as these cells. -/
def ReadsAs (I : Imm) (L : List Lay) (w : World) (b o : Nat) (cs : List AV) : Prop :=
  ∀ j y, cs[j]? = some y → ∃ u, w.cell? ⟨b, o + j, none⟩ = some u ∧ scal u = true ∧ Rep I L y u

theorem run_loadVar_of {T : TypeId} {b o : Nat} {cs : List AV} (hc : ReadsAs I L w b o cs) {r : AV} (h : mkVal P T cs = some r) :
    ∃ u, (loadVar T ⟨b, o, none⟩).run P w = .ok u w ∧ Rep I L r u := by
  unfold mkVal at h
  split at h
  · rename_i s ha hs
    split at h
    · rename_i hle
      simp at h; subst h
      have hf : ∀ j, j < s → w.cell? ((⟨b, o, none⟩ : Addr).add j) = some ((w.cell? ⟨b, o + j, none⟩).getD undef) := by
        intro j hj
        obtain ⟨u, e, _⟩ := hc j _ (List.getElem?_eq_getElem (by omega))
        rw [Addr.add_lit, e]; rfl
      refine ⟨.agg ((List.range s).map fun j => (w.cell? ⟨b, o + j, none⟩).getD undef).toArray, ?_, ?_⟩
      · unfold loadVar
        simp only [Sem.run_bind, tyAgg_run ha, Result.andThen_ok, if_true, tySz_run hs, run_loadCells w _ s _ hf]
        rfl
      · refine .agg _ _ (by simp; omega) (fun i hi => ?_) (fun i y hy => ?_)
        · simp at hi
          obtain ⟨u, e, e2, _⟩ := hc i _ (List.getElem?_eq_getElem (by omega : i < cs.length))
          simp [Array.getD_eq_getD_getElem?, hi, e, e2]
        · rw [List.getElem?_take] at hy
          split at hy
          · rename_i hi
            obtain ⟨u, e, e2, e3⟩ := hc i y hy
            simpa [Array.getD_eq_getD_getElem?, hi, e] using e3
          · simp at hy
    · simp at h
  · rename_i s ha hs
    cases cs with
    | nil => simp at h
    | cons y rest =>
      simp at h; subst h
      obtain ⟨u, e, e2, e3⟩ := hc 0 y rfl
      refine ⟨u, ?_, e3⟩
      unfold loadVar
      simp only [Nat.add_zero] at e
      simp only [Sem.run_bind, tyAgg_run ha, Result.andThen_ok, run_load, e, Sem.run_ite]
      rfl
  · simp at h

theorem ReadsAs.drop {b o : Nat} {cs : List AV} (h : ReadsAs I L w b o cs) (n : Nat) : ReadsAs I L w b (o + n) (cs.drop n) := by
  intro j y hj
  rw [List.getElem?_drop] at hj
  have := h (n + j) y hj
  rwa [← Nat.add_assoc] at this

theorem load_sound (hi : Inv B0 w0 I H L w) {a : AV} {v : Value} (hr : Rep I L a v) {cs : List AV} (hc : cellsAt H a = some cs) {T : TypeId} {r : AV} (h : mkVal P T cs = some r) :
    ∃ u, (Instr.loadAt T v).run P w = .ok u w ∧ Rep I L r u := by
  obtain ⟨b, o, rfl, h2⟩ := cellsAt_sound hi hr hc
  obtain ⟨u, e1, e2⟩ := run_loadVar_of (P := P) h2 h
  exact ⟨u, by unfold Instr.loadAt; simp only [Sem.run_bind, Instr.sureAddr, Sem.run_pure, Result.andThen_ok, e1], e2⟩

theorem fieldAddr_sound {T : TypeId} {x : AV} {v : Value} (hr : Rep I L x v) {f : Nat} {r : AV} (h : evFieldAddr P T x f = some r) :
    ∃ u, (Instr.fieldAt T v f).run P w = .ok u w ∧ Rep I L r u := by
  unfold evFieldAddr at h
  split at h
  · rename_i off ft s hf
    obtain ⟨fs, d, hu, hd, e1, e2, hs⟩ := tyFld_eq hf
    split at h
    · simp at h
    · rename_i hs0
      have key : ∀ b o, (Instr.fieldAt T (.pointer (some ⟨b, o, none⟩)) f).run P w = .ok (.pointer (some ⟨b, o + off, none⟩)) w := by
        intro b o
        unfold Instr.fieldAt
        simp only [Sem.run_bind, run_underlying hu, Result.andThen_ok, hd, Instr.sureAddr, Sem.run_pure, fieldPlace, e2, tySz_run hs, Sem.run_ite, if_neg hs0, Addr.add_lit, e1]
      split at h
      · rename_i id tot i j
        simp at h; subst h
        cases hr with
        | rf _ _ _ _ l b o hL ht hv =>
          exact ⟨_, key b o, .rf id tot i (j + off) l b (o + off) hL ht (fun e => ⟨(hv e).1, (hv e).2.1, by rw [(hv e).2.2]; omega⟩)⟩
      · rename_i cs
        simp at h; subst h
        cases hr with
        | pt _ b o f' hI hR =>
          refine ⟨_, key b o, .pt _ b (o + off) (fun j => f' (off + j)) (fun j y hj => ?_) (fun j y hj => ?_)⟩
          · rw [List.getElem?_drop] at hj
            have := hI _ y hj
            rwa [← Nat.add_assoc] at this
          · rw [List.getElem?_drop] at hj
            exact hR _ y hj
      · simp at h
  · simp at h

theorem run_indexAt_ok {T e : TypeId} {s : Nat} (hu : P.underlying T = some (.slice e)) (hs : tySz P e = some s) (b o len cap : Nat) (k : IntKind) (n : Int) (h0 : 0 ≤ n) (hl : n < len) (w : World) :
    (Instr.indexAt T (.slice (some ⟨b, o, none⟩) len cap) (.int k n)).run P w = .ok (.pointer (some ⟨b, o + n.toNat * s, none⟩)) w := by
  have hu' : P.underlying T = some (.slice (P.elem T)) := by simp [Program.elem, hu]
  have he : P.elem T = e := by simp [Program.elem, hu]
  rw [run_indexAt_slice w T _ len cap k n hu', if_pos ⟨h0, hl⟩, he, tySz_run hs]
  simp [Addr.add_lit]

theorem run_indexAt_arr_ok {T e : TypeId} {s len : Nat} (hu : P.underlying T = some (.array len e)) (hs : tySz P e = some s) (b o : Nat) (k : IntKind) (n : Int) (h0 : 0 ≤ n) (hl : n < len) (w : World) :
    (Instr.indexAt T (.pointer (some ⟨b, o, none⟩)) (.int k n)).run P w = .ok (.pointer (some ⟨b, o + n.toNat * s, none⟩)) w := by
  unfold Instr.indexAt
  simp only [Sem.run_bind, asIntOf, Sem.run_pure, Result.andThen_ok, run_underlying hu, Instr.sureAddr]
  simp [h0, hl, tySz_run hs, Addr.add_lit]

theorem indexAddr_sound {T : TypeId} {x ix : AV} {v vi : Value} (hr : Rep I L x v) (hri : Rep I L ix vi) {r : AV} (h : evIndexAddr P T x ix = some r) :
    ∃ u, (Instr.indexAt T v vi).run P w = .ok u w ∧ Rep I L r u := by
  unfold evIndexAddr at h
  split at h
  · rename_i k n
    cases hri
    split at h
    · rename_i e he
      have hu := tyElem_eq he
      split at h
      · rename_i s hs
        split at h
        · rename_i t xs
          split at h
          · rename_i h0
            split at h
            · rename_i y hy
              split at h
              · rename_i hw
                simp at h; subst h
                have hlt : n.toNat < xs.length := (List.getElem?_eq_some_iff.1 hy).1
                generalize hx : AV.sl t xs = x at hr
                cases hr with
                | nilsl t' => simp at hx; obtain ⟨rfl, rfl⟩ := hx; simp at hlt
                | sl t' xs' b o c k' f hc ht hk hI hR =>
                  simp at hx; obtain ⟨rfl, rfl⟩ := hx
                  refine ⟨_, run_indexAt_ok hu hs b o _ c k n h0 (by omega) w, .pt _ b _ (fun j => f n.toNat j) (fun j z hj => ?_) (fun j z hj => hR _ j y z hy hj)⟩
                  have hk' : k' = s := by rw [← hw]; exact (hk y (List.mem_of_getElem? hy)).symm
                  rw [← hk']
                  exact hI n.toNat j y z hy hj
                | _ => cases hx
              · simp at h
            · simp at h
          · simp at h
        · rename_i id k' tot off len
          split at h
          · rename_i hc
            obtain ⟨h0, hl, hk⟩ := hc
            simp at h; subst h
            cases hr with
            | ms _ _ _ _ _ l b o c hL ht hk2 hl2 hlc hv =>
              refine ⟨_, run_indexAt_ok hu hs b o len c k n h0 hl w, .rf id tot (off + n.toNat) 0 l b _ hL ht (fun e => ?_)⟩
              obtain ⟨v1, v2, v3, _⟩ := hv e
              refine ⟨by omega, v2, ?_⟩
              rw [v3 (by omega), ← hk, hk2]
              have : (off + n.toNat - l.sh) * k' = (off - l.sh) * k' + n.toNat * k' := by rw [← Nat.add_mul]; congr 1; omega
              omega
          · simp at h
        · simp at h
      · simp at h
    · split at h
      · rename_i len e he
        have hu := tyArr_eq he
        split at h
        · rename_i s hs
          split at h
          · rename_i hc
            obtain ⟨h0, hl⟩ := hc
            split at h
            · rename_i id tot i j
              simp at h; subst h
              cases hr with
              | rf _ _ _ _ l b o hL ht hv =>
                exact ⟨_, run_indexAt_arr_ok hu hs b o k n h0 hl w, .rf id tot i _ l b _ hL ht (fun e => ⟨(hv e).1, (hv e).2.1, by rw [(hv e).2.2]; omega⟩)⟩
            · rename_i cs
              simp at h; subst h
              cases hr with
              | pt _ b o f' hI hR =>
                refine ⟨_, run_indexAt_arr_ok hu hs b o k n h0 hl w, .pt _ b _ (fun j => f' (n.toNat * s + j)) (fun j y hj => ?_) (fun j y hj => ?_)⟩
                · rw [List.getElem?_drop] at hj
                  have := hI _ y hj
                  rwa [← Nat.add_assoc] at this
                · rw [List.getElem?_drop] at hj
                  exact hR _ y hj
            · simp at h
          · simp at h
        · simp at h
      · simp at h
  · simp at h

theorem part_sound {T : TypeId} {cs : List AV} {ws : Array Value} (hr : Rep I L (.agg cs) (.agg ws)) {off : Nat} {r : AV} (h : evPart P T cs off = some r) :
    ∃ u, (part T ws off).run P w = .ok u w ∧ Rep I L r u := by
  cases hr with
  | agg _ _ hn hs hR =>
    unfold evPart at h
    split at h
    · rename_i s ha hsz
      split at h
      · rename_i hle
        simp at h; subst h
        refine ⟨.agg (ws.extract off (off + s)), ?_, ?_⟩
        · unfold part
          simp only [Sem.run_bind, tyAgg_run ha, Result.andThen_ok, if_true, tySz_run hsz]
          rfl
        · have hget : ∀ i, i < s → (ws.extract off (off + s)).getD i undef = ws.getD (off + i) undef := by
            intro i hi
            simp [Array.getD_eq_getD_getElem?, Array.getElem?_extract]
            rw [if_pos (by omega)]
          refine .agg _ _ (by simp; omega) (fun i hi => ?_) (fun i y hy => ?_)
          · simp at hi
            rw [hget i (by omega)]
            exact hs _ (by omega)
          · rw [List.getElem?_take] at hy
            split at hy
            · rename_i hlt
              rw [List.getElem?_drop] at hy
              rw [hget i hlt]; exact hR _ y hy
            · simp at hy
      · simp at h
    · rename_i s ha hsz
      have hlt : off < ws.size := by rw [hn]; exact (List.getElem?_eq_some_iff.1 h).1
      refine ⟨ws.getD off undef, ?_, hR off r h⟩
      unfold part
      have e : ws[off]? = some (ws.getD off undef) := by simp [Array.getD_eq_getD_getElem?, hlt]
      simp only [Sem.run_bind, tyAgg_run ha, Result.andThen_ok, e, Sem.run_ite]
      rfl
    · simp at h

theorem field_sound {T : TypeId} {x : AV} {v : Value} (hr : Rep I L x v) {f : Nat} {r : AV} (h : evField P T x f = some r) :
    ∃ u, (Instr.field T v f).run P w = .ok u w ∧ Rep I L r u := by
  unfold evField at h
  split at h
  · rename_i cs off ft s hf
    obtain ⟨fs, d, hu, hd, e1, e2, hs⟩ := tyFld_eq hf
    cases hr with
    | agg _ ws hn hs2 hR =>
      obtain ⟨u, g1, g2⟩ := part_sound (P := P) (w := w) (.agg cs ws hn hs2 hR) h
      refine ⟨u, ?_, g2⟩
      unfold Instr.field
      simp only [Sem.run_bind, run_underlying hu, Result.andThen_ok, hd, asAgg, Sem.run_pure, e1, e2, g1]
  · simp at h

theorem index_sound {T : TypeId} {x ix : AV} {v vi : Value} (hr : Rep I L x v) (hri : Rep I L ix vi) {r : AV} (h : evIndex P T x ix = some r) :
    ∃ u, (Instr.index T v vi).run P w = .ok u w ∧ Rep I L r u := by
  unfold evIndex at h
  split at h
  · rename_i cs k n
    cases hri
    split at h
    · rename_i len e he
      have hu := tyArr_eq he
      split at h
      · rename_i s hs
        split at h
        · rename_i hc
          obtain ⟨h0, hl⟩ := hc
          cases hr with
          | agg _ ws hn hs2 hR =>
            obtain ⟨u, g1, g2⟩ := part_sound (P := P) (w := w) (.agg cs ws hn hs2 hR) h
            refine ⟨u, ?_, g2⟩
            unfold Instr.index
            simp only [Sem.run_bind, asIntOf, Sem.run_pure, Result.andThen_ok, run_underlying hu]
            simp [h0, hl, tySz_run hs, g1]
        · simp at h
      · simp at h
    · simp at h
  · rename_i b k n
    cases hri
    cases hr
    split at h
    · rename_i hc
      obtain ⟨hs, h0⟩ := hc
      have hu := tyStr_eq hs
      split at h
      · rename_i c hb
        simp at h; subst h
        refine ⟨_, ?_, .int _ _⟩
        unfold Instr.index
        simp only [Sem.run_bind, asIntOf, Sem.run_pure, Result.andThen_ok, run_underlying hu]
        simp [h0, hb]
      · simp at h
    · simp at h
  · simp at h

theorem extract_sound {vs : List AV} {v : Value} (hr : Rep I L (.tup vs) v) {i : Nat} {r : AV} (h : vs[i]? = some r) :
    ∃ u, (Instr.extract v i).run P w = .ok u w ∧ Rep I L r u := by
  cases hr with
  | tup _ ws hn hR =>
    have hlt : i < ws.size := by rw [hn]; exact (List.getElem?_eq_some_iff.1 h).1
    have e : ws[i]? = some (ws.getD i undef) := by simp [Array.getD_eq_getD_getElem?, hlt]
    exact ⟨_, by unfold Instr.extract; simp only [e]; rfl, hR i r h⟩

end Go.Ev
