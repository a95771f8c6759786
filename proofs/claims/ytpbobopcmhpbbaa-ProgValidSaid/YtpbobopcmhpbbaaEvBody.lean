/- A whole call. -/
import Derived.Test.YtpbobopcmhpbbaaEvCode
set_option linter.unusedVariables false
set_option linter.unusedSimpArgs false
namespace Go.Ev
open Go.RowKit

variable {P : Program} {pol : Pol} {cf : CF} {it : It} {B0 : Nat} {w0 : Base} {w : World} {I I0 : Imm} {H : List MB} {L L0 : List Lay}

def ExtOk (P : Program) (pol : Pol) : Prop := ∀ f g, pol.ext f = some g → ∀ args H r H', g args H = some (r, H') → CallSound P f args H r H'

theorem frzArgs_sound (f : Nat) : ∀ (args : List AV) (i : Nat) {I : Imm} {H H1 : List MB} {as : List AV}, Inv B0 w0 I H L w → frzArgs pol f i args H = some (as, H1) →
    ∃ I', Inv B0 w0 I' H1 L w ∧ Grows I I' ∧ as.length = args.length ∧ ∀ (j : Nat) (x y : AV), args[j]? = some x → as[j]? = some y → Later I' L x y
  | [], i, I, H, H1, as, hi, h => by
    simp [frzArgs] at h; obtain ⟨rfl, rfl⟩ := h
    exact ⟨I, hi, .refl I, rfl, fun j x y h => by simp at h⟩
  | x :: xs, i, I, H, H1, as, hi, h => by
    simp only [frzArgs] at h
    split at h
    · rename_i y H2 h2
      split at h
      · rename_i ys H3 h3
        simp at h; obtain ⟨rfl, rfl⟩ := h
        have : ∃ I2, Inv B0 w0 I2 H2 L w ∧ Grows I I2 ∧ Later I2 L x y := by
          split at h2
          · simp at h2; obtain ⟨rfl, rfl⟩ := h2
            exact ⟨I, hi, .refl I, .refl _ _ _⟩
          · obtain ⟨I2, a1, a2, a3, a4⟩ := fz_sound hi h2
            exact ⟨I2, a1, a2, a3⟩
        obtain ⟨I2, a1, a2, a3⟩ := this
        obtain ⟨I3, b1, b2, b3, b4⟩ := frzArgs_sound f xs (i + 1) a1 h3
        refine ⟨I3, b1, a2.trans b2, by simp [b3], fun j u v hu hv => ?_⟩
        match j, hu, hv with
        | 0, hu, hv => simp at hu hv; subst hu; subst hv; exact a3.mono b2
        | j + 1, hu, hv => exact b4 j u v (by simpa using hu) (by simpa using hv)
      · simp at h
    · simp at h

theorem evResults_sound {s : St} {a : Act} (hi : Inv B0 w0 I s.h L w) (hr : TmOk I L s.n s.t a.tmps) {g : ResultVar → Sem Value} (hg1 : ∀ t, g (.tmp t) = pure (a.tmps.getD t undef))
    (hg2 : ∀ b t, g (.cell b t) = do loadVar t (← asAddr (a.tmps.getD b undef))) : ∀ (rs : List ResultVar) {vs : List AV}, evResults P s rs = some vs →
    ∃ us : List Value, (rs.mapM g).run P w = .ok us w ∧ us.length = vs.length ∧ ∀ (i : Nat) (y : AV) (u : Value), vs[i]? = some y → us[i]? = some u → Rep I L y u
  | [], vs, h => by
    simp [evResults] at h; subst h
    exact ⟨[], rfl, rfl, fun i y u h => by simp at h⟩
  | r :: rs, vs, h => by
    simp only [evResults] at h
    split at h
    · rename_i v hv
      split at h
      · rename_i vs' hvs
        simp at h; subst h
        obtain ⟨us, e1, e2, e3⟩ := evResults_sound hi hr hg1 hg2 rs hvs
        have : ∃ u, (g r).run P w = .ok u w ∧ Rep I L v u := by
          cases r with
          | tmp t => exact ⟨a.tmps.getD t undef, by rw [hg1]; rfl, hr.at hv⟩
          | cell b t =>
            simp only [evResult] at hv
            split at hv
            · rename_i p hp
              split at hv
              · rename_i cs hcs
                obtain ⟨b', o, q1, q2⟩ := cellsAt_sound hi (hr.at hp) hcs
                obtain ⟨u, g1, g2⟩ := run_loadVar_of (P := P) q2 hv
                refine ⟨u, ?_, g2⟩
                rw [hg2]
                simp only [q1, asAddr, Sem.run_bind, Sem.run_pure, Result.andThen_ok, g1]
              · simp at hv
            · simp at hv
        obtain ⟨u, g1, g2⟩ := this
        refine ⟨u :: us, ?_, by simp [e2], fun i y u' h1 h2 => ?_⟩
        · simp only [List.mapM_cons, Sem.run_bind, g1, Result.andThen_ok, e1, Sem.run_pure]
        · match i, h1, h2 with
          | 0, h1, h2 => simp at h1 h2; subst h1; subst h2; exact g2
          | i + 1, h1, h2 => exact e3 i y u' (by simpa using h1) (by simpa using h2)
      · simp at h
    · simp at h

theorem results_sound {fn : Func} {s : St} {a : Act} (hi : Inv B0 w0 I s.h L w) (hr : TmOk I L s.n s.t a.tmps) {vs : List AV} (h : evResults P s fn.results.toList = some vs) :
    ∃ v, (results fn a.tmps).run P w = .ok v w ∧ Rep I L (packRes vs) v := by
  unfold results
  generalize hg : (fun (x : ResultVar) => (match x with
    | .tmp t => pure (a.tmps.getD t undef)
    | .cell b t => do loadVar t (← asAddr (a.tmps.getD b undef)) : Sem Value)) = g
  have hg1 : ∀ t, g (.tmp t) = pure (a.tmps.getD t undef) := fun t => by rw [← hg]
  have hg2 : ∀ b t, g (.cell b t) = (do loadVar t (← asAddr (a.tmps.getD b undef)) : Sem Value) := fun b t => by rw [← hg]
  obtain ⟨us, e1, e2, e3⟩ := evResults_sound (P := P) hi hr hg1 hg2 fn.results.toList h
  have hm : ∀ (g' : ResultVar → Sem Value), g' = g → (fn.results.mapM g').run P w = .ok us.toArray w := by
    rintro g' rfl
    rw [← Array.toArray_toList (xs := fn.results), List.mapM_toArray]
    simp only [Sem.run_map, e1, Result.andThen_ok]
  refine ⟨if h : us.toArray.size = 1 then us.toArray[0] else .tuple us.toArray, ?_, ?_⟩
  · rw [Sem.run_bind, hm g rfl]
    rfl
  · match vs, us, e2, e3 with
    | [y], [u], _, e3 => exact e3 0 y u rfl rfl
    | [], [], _, _ => exact .tup [] #[] rfl (fun i y h => by simp at h)
    | y :: y' :: vs, u :: u' :: us, e2, e3 =>
      rw [dif_neg (by simp)]
      refine .tup _ _ (by simp at e2 ⊢; exact e2) (fun i y hy => ?_)
      have hlt : i < (u :: u' :: us).length := by rw [e2]; exact (List.getElem?_eq_some_iff.1 hy).1
      have h3 := e3 i y _ hy (List.getElem?_eq_getElem hlt)
      have e : (u :: u' :: us).toArray.getD i undef = (u :: u' :: us)[i] := by
        rw [Array.getD_eq_getD_getElem?, List.getElem?_toArray, List.getElem?_eq_getElem hlt]; rfl
      rw [e]; exact h3

theorem mark_length (H : List MB) (id n : Nat) : (mark H id n).length = H.length := by
  unfold mark
  split
  · simp
  · rfl

theorem retPol_sound {f : Nat} {I1 I' : Imm} {H1 H' : List MB} {L L' : List Lay} {w w' : World} (h1 : Inv B0 w0 I1 H1 L w) (h2 : Inv B0 w0 I' H' L' w') (hx : Ext I1 L I' L') {r : AV} {v : Value} (hr : Rep I' L' r v)
    {r2 : AV} {H2 : List MB} (h : retPol pol f H1 r H' = some (r2, H2)) : ∃ I2 L2, Inv B0 w0 I2 H2 L2 w' ∧ Ext I1 L I2 L2 ∧ Rep I2 L2 r2 v := by
  have hn1 : L.length = H1.length := h1.len
  have hlen : H1.length ≤ H'.length := by
    rcases Nat.lt_or_ge H'.length H1.length with g | g
    · have hl := List.getElem?_eq_getElem (l := L) (i := H'.length) (by omega)
      obtain ⟨l', e, _⟩ := hx.lay _ _ hl
      have := (List.getElem?_eq_some_iff.1 e).1
      rw [h2.len] at this; omega
    · exact g
  -- forgetting what the call alone has made
  have dropped : ∀ (J : Imm) (K : List MB), Inv B0 w0 J K L' w' → Grows I' J → K.length = H'.length → keptOk H1.length H1 K = true → Inv B0 w0 J (K.take H1.length) (L'.take H1.length) w' ∧ Ext I1 L J (L'.take H1.length) := by
    intro J K hJ hg hKl hk
    have hxJ : Ext I1 L J L' := hx.trans (hg.ext L')
    refine ⟨hJ.drop (by omega) (fun id k els z l hid hm hl i j x y g1 g2 g3 => ?_), hxJ.imm, fun id l hl => ?_⟩
    · have hid1 : id < H1.length := hid
      have hm1 := List.getElem?_eq_getElem hid1
      rcases keptOk_spec _ _ _ id _ _ hk hm1 hm with g | g
      · have hl1 := List.getElem?_eq_getElem (l := L) (i := id) (by omega)
        have hb1 := h1.blk id _ _ hm1 hl1
        rw [← g] at hb1
        obtain ⟨l', e, ek, et, es⟩ := hxJ.lay id _ hl1
        rw [hl] at e; obtain rfl := Option.some.inj e
        have hbJ := hJ.blk id _ _ hm hl
        have hll := es (by rw [hbJ.ht, hb1.ht])
        obtain ⟨cs, T, f1, f2, f3, f4⟩ := BlkOk.blk hb1
        obtain ⟨v0, _, _, e3⟩ := f3 i j x y g1 g2 (by rw [← hll]; exact g3)
        have := e3.under
        rwa [hn1] at this
      · simp only [MB.under] at g
        rw [underL_iff] at g
        exact (under_cells _ x).1 (g x (List.mem_of_getElem? g1)) y (List.mem_of_getElem? g2)
    · obtain ⟨l', e, ek, et, es⟩ := hxJ.lay id l hl
      refine ⟨l', ?_, ek, et, es⟩
      rw [List.getElem?_take, if_pos (by rw [← hn1]; exact (List.getElem?_eq_some_iff.1 hl).1)]; exact e
  have freeze : ∀ {r' : AV} {K : List MB}, fz r H' = some (r', K) → AV.under H1.length r' = true → keptOk H1.length H1 K = true → ∃ I2 L2, Inv B0 w0 I2 (K.take H1.length) L2 w' ∧ Ext I1 L I2 L2 ∧ Rep I2 L2 r' v := by
    intro r' K hfz hu hk
    obtain ⟨J, j1, j2, j3, _⟩ := fz_sound h2 hfz
    have hKl : K.length = H'.length := by rw [← j1.len, h2.len]
    obtain ⟨d1, d2⟩ := dropped J K j1 j2 hKl hk
    exact ⟨J, _, d1, d2, (j3 J (.refl J) v (hr.mono (j2.ext L'))).restrict hu⟩
  unfold retPol at h
  split at h
  · simp at h; obtain ⟨rfl, rfl⟩ := h
    exact ⟨I', L', h2, hx, hr⟩
  · split at h
    · rename_i id k tot off len hq
      have hrr : r = .ms id k tot off len := by
        split at hq
        · exact hq
        · cases hq
      subst hrr
      split at h
      · rename_i k' els z hrow
        split at h
        · rename_i hc
          obtain ⟨c1, c2, c3, c4⟩ := hc
          subst c3
          split at h
          · rename_i xs K hfz
            split at h
            · rename_i k'' els'' z' hrow'
              split at h
              · rename_i hd
                obtain ⟨d1, d2, d3, d4⟩ := hd
                simp at h; obtain ⟨rfl, rfl⟩ := h
                obtain ⟨J, j1, j2, j3⟩ := fzs_sound h2 hfz
                have hKl : K.length = H'.length := by rw [← j1.len, h2.len]
                obtain ⟨q1, q2⟩ := dropped J K j1 j2 hKl d2
                obtain ⟨l, hl, hb⟩ := h2.row hrow
                obtain ⟨l2, hl2, hb2⟩ := j1.row hrow'
                rw [hl] at hl2; obtain rfl := Option.some.inj hl2
                obtain ⟨cs, T, f1, f2, f3, f4⟩ := hb.blk
                obtain ⟨cs2, T2, f12, f22, f32, f42⟩ := hb2.blk
                rw [f1] at f12; simp at f12; obtain ⟨rfl, rfl⟩ := f12
                have hkk : k'' = k' := by rw [← hb2.hk, hb.hk]
                subst hkk
                cases hr with
                | ms _ _ _ _ _ l3 b o c hL ht hk2 hl3 hlc hv =>
                  rw [hl] at hL; obtain rfl := Option.some.inj hL
                  obtain ⟨v1, v2, v3, v4, v5⟩ := hv (by rw [hb.ht]; exact c2.symm)
                  subst v2
                  have hsub : ((els.drop off).take len).length = len := by simp; omega
                  have hoff : ∀ i, off ≤ i → (i - l.sh) * k'' = (off - l.sh) * k'' + (i - off) * k'' := by
                    intro i h
                    rw [← Nat.add_mul]; congr 1; omega
                  have ln : (L'.take H1.length).length = H1.length := by simp [h2.len]; omega
                  have hTl : (K.take H1.length).length = H1.length := by simp; omega
                  have hfitc : l.o + (off - l.sh) * k'' + len * k'' ≤ l.n := by
                    have : (off - l.sh + c) * k'' = (off - l.sh) * k'' + c * k'' := Nat.add_mul _ _ _
                    have : len * k'' ≤ c * k'' := Nat.mul_le_mul_right k'' hlc
                    omega
                  let ln' : Lay := ⟨k'', len, l.b, l.n, l.o + (off - l.sh) * k'', 0⟩
                  have hxx : Ext J (L'.take H1.length) J (L'.take H1.length ++ [ln']) := ext_push _ _ _
                  have hbne : ∀ (i : Nat) (li : Lay), (L'.take H1.length)[i]? = some li → li.b ≠ l.b := by
                    intro i li hli e
                    rw [List.getElem?_take] at hli
                    split at hli
                    · rename_i hlt
                      have := h2.inj i id li l hli hl e
                      omega
                    · simp at hli
                  refine ⟨J, L'.take H1.length ++ [ln'], ⟨q1.below, q1.base, by simp [ln, hTl], fun i m li hm hli => ?_, fun i j li lj g1 g2 g3 => ?_, q1.imm, q1.old⟩, q2.trans hxx, ?_⟩
                  · by_cases hi : i < H1.length
                    · rw [List.getElem?_append_left (by omega)] at hm hli
                      exact MbOk.mono hxx (fun _ => rfl) (q1.blk i m li hm hli)
                    · have hie : i = H1.length := by
                        have := (List.getElem?_eq_some_iff.1 hli).1
                        simp at this
                        have h3 := h2.len
                        omega
                      subst hie
                      rw [List.getElem?_append_right (by omega), hTl, Nat.sub_self] at hm
                      rw [List.getElem?_append_right (by omega), ln, Nat.sub_self] at hli
                      simp at hm hli
                      subst hm; subst hli
                      refine ⟨rfl, d3.symm, Nat.zero_le _, by omega, hb.hB, fun x hx => ?_, by show l.o + (off - l.sh) * k'' + (xs.length - 0) * k'' ≤ l.n; rw [Nat.sub_zero, d3]; exact hfitc, ⟨cs, T, f1, f2, fun i j x y g1 g2 _ => ?_, fun q g1 g2 => ?_⟩, fun q g => ?_⟩
                      · obtain ⟨i, hi⟩ := List.getElem?_of_mem hx
                        obtain ⟨x0, e1, _, e2⟩ := j3.get hi
                        rw [e2.1]
                        exact hb.wid x0 (List.mem_of_mem_drop (List.mem_of_mem_take (List.mem_of_getElem? e1)))
                      · obtain ⟨x0, e1, _, e2⟩ := j3.get g1
                        have hj : j < x0.cells.length := by rw [← e2.1]; exact (List.getElem?_eq_some_iff.1 g2).1
                        have hx0 : els[off + i]? = some x0 := by
                          rw [List.getElem?_take] at e1
                          split at e1
                          · rw [List.getElem?_drop] at e1; exact e1
                          · simp at e1
                        obtain ⟨u, u1, u2, u3⟩ := f3 (off + i) j x0 _ hx0 (List.getElem?_eq_getElem hj) (by omega)
                        refine ⟨u, ?_, u2, ?_⟩
                        · rw [← u1, hoff (off + i) (by omega)]
                          have : off + i - off = i := by omega
                          rw [this]
                          show cs[l.o + (off - l.sh) * k'' + (i - 0) * k'' + j]? = _
                          rw [Nat.sub_zero]
                          congr 1; omega
                        · have hu := (under_cells H1.length x).1 ((underL_iff _ _).1 d1 x (List.mem_of_getElem? g1)) y (List.mem_of_getElem? g2)
                          exact (((e2.2 j _ y (List.getElem?_eq_getElem hj) g2) J (.refl J) u (u3.mono (j2.ext L'))).restrict hu).mono hxx
                      · have g1 : l.o + (off - l.sh) * k'' ≤ q := g1
                        have g2 : q < l.o + (off - l.sh) * k'' + (z' - off - 0) * k'' := g2
                        show J l.b q = _
                        by_cases hz : off ≤ z'
                        · refine f42 q (by omega) ?_
                          rw [hoff z' hz]
                          rw [Nat.sub_zero] at g2
                          omega
                        · have : z' - off - 0 = 0 := by omega
                          rw [this] at g2; omega
                      · have g : l.o + (off - l.sh) * k'' + (z' - off - 0) * k'' ≤ q := g
                        show J l.b q = none
                        refine hb2.free q ?_
                        by_cases hz : off ≤ z'
                        · rw [hoff z' hz]
                          rw [Nat.sub_zero] at g
                          omega
                        · have : (z' - l.sh) * k'' ≤ (off - l.sh) * k'' := Nat.mul_le_mul_right k'' (by omega)
                          omega
                  · have hcase : ∀ (i : Nat) (li : Lay), (L'.take H1.length ++ [ln'])[i]? = some li → (i < H1.length ∧ (L'.take H1.length)[i]? = some li) ∨ (i = H1.length ∧ li = ln') := by
                      intro i li hli
                      by_cases hi : i < H1.length
                      · rw [List.getElem?_append_left (by omega)] at hli
                        exact .inl ⟨hi, hli⟩
                      · rw [List.getElem?_append_right (by omega), ln] at hli
                        have h4 := (List.getElem?_eq_some_iff.1 hli).1
                        simp at h4
                        have hie : i - H1.length = 0 := by omega
                        rw [hie] at hli
                        simp at hli
                        exact .inr ⟨by omega, hli.symm⟩
                    rcases hcase i li g1 with ⟨a1, a2⟩ | ⟨a1, a2⟩
                    · rcases hcase j lj g2 with ⟨b1, b2⟩ | ⟨b1, b2⟩
                      · exact q1.inj i j li lj a2 b2 g3
                      · subst b2
                        exact absurd g3 (hbne i li a2)
                    · rcases hcase j lj g2 with ⟨b1, b2⟩ | ⟨b1, b2⟩
                      · subst a2
                        exact absurd g3.symm (hbne j lj b2)
                      · omega
                  · refine .ms H1.length k'' len 0 len ln' l.b o c (by rw [List.getElem?_append_right (by omega), ln, Nat.sub_self]; rfl) (Nat.le_refl _) rfl (by omega) hlc (fun _ => ⟨Nat.le_refl _, rfl, fun h0 => ?_, by omega, ?_⟩)
                    · show o = l.o + (off - l.sh) * k'' + (0 - 0) * k''
                      rw [v3 h0]; simp
                    · show l.o + (off - l.sh) * k'' + (0 - 0 + c) * k'' ≤ l.n
                      have : (off - l.sh + c) * k'' = (off - l.sh) * k'' + c * k'' := Nat.add_mul _ _ _
                      simp only [Nat.sub_self, Nat.zero_add]
                      omega
              · simp at h
            · simp at h
          · simp at h
        · simp at h
      · simp at h
    · split at h
      · rename_i r' K hfz
        split at h
        · rename_i hc
          simp at h; obtain ⟨rfl, rfl⟩ := h
          exact freeze hfz hc.1 hc.2
        · simp at h
      · simp at h

theorem mskOf_le {k : Nat → Option (List Nat)} {g : Nat → Option Nat} {n l : Nat} (hl : l = n) (i : Nat) : ∀ q, (mskOf k g n i).gc = some q → l ≤ q := by
  intro q h
  unfold mskOf at h
  split at h
  · simp at h
  · split at h
    · simp at h; omega
    · simp at h

/-- One call is sound if the calls inside it are. -/
theorem evBody_sound (hext : ExtOk P pol) (hcf : CfOk P cf) (hit : ItOk it) (hm : P.follows .mixedOrders = true) : CfOk P (evBody P pol cf it) := by
  intro f args H r H' h
  unfold evBody at h
  split at h
  · rename_i g hg
    exact hext f g hg args H r H' h
  · split at h
    · simp at h
    · rename_i fn hfn
      split at h
      · simp at h
      · rename_i c hc
        split at h
        · simp at h
        · rename_i hname
          split at h
          · simp at h
          · rename_i as H1 hfrz
            have hrest : ∃ e s vs, (e = .norm ∨ e = .ret) ∧ evCode P cf it (pol.muts f) (cfgOf pol f H1.length) c { n := as.length + (fn.ntmps - as.length), t := initT 0 as [], h := H1 } = some (e, s) ∧
                evResults P s fn.results.toList = some vs ∧ retPol pol f H1 (packRes vs) s.h = some (r, H') := by
              split at h
              · rename_i s hev
                split at h
                · rename_i vs hvs; exact ⟨_, s, vs, .inl rfl, hev, hvs, h⟩
                · simp at h
              · rename_i s hev
                split at h
                · rename_i vs hvs; exact ⟨_, s, vs, .inr rfl, hev, hvs, h⟩
                · simp at h
              · simp at h
            obtain ⟨e, s, vs, he, hev, hvs, hret⟩ := hrest
            refine ⟨fun us w => ?_, fun B0 w0 w I L us hi hus => ?_⟩
            · unfold callFunc
              simp only [Sem.run_bind, run_program, Result.andThen_ok, hfn]
              rw [if_neg (by simpa using hname), if_neg (by simp [hc])]
              rfl
            · obtain ⟨I1, a1, a2, a3, a4⟩ := frzArgs_sound (pol := pol) f args 0 hi hfrz
              refine calls_of_wp hfn hc ?_
              have hs0 : StOk B0 w0 I1 L { n := as.length + (fn.ntmps - as.length), t := initT 0 as [], h := H1 } { tmps := us ++ Array.replicate (fn.ntmps - us.size) undef, defers := [] } w := by
                have hsz : us.size = as.length := by rw [hus.1, a3]
                refine ⟨I1, L, a1, .refl I1 L, rfl, ?_⟩
                refine initT_ok as 0 [] (fun i y hy => ?_) (fun q hq => by cases hq) ⟨by simp [hsz], List.Pairwise.nil, fun q hq => by cases hq⟩
                have hlt := (List.getElem?_eq_some_iff.1 hy).1
                refine ⟨by show 0 + i < as.length + (fn.ntmps - as.length); omega, ?_⟩
                have hxl : i < args.length := by omega
                have := hus.2 i _ (List.getElem?_eq_getElem hxl)
                have h3 := a4 i _ y (List.getElem?_eq_getElem hxl) hy I1 (.refl I1) _ (this.mono (a2.ext L))
                have e1 : (us ++ Array.replicate (fn.ntmps - us.size) undef).getD (0 + i) undef = us.getD i undef := by
                  have hlt2 : i < us.size := by omega
                  rw [Nat.zero_add]
                  simp only [Array.getD_eq_getD_getElem?, Array.getElem?_append_left hlt2]
                rw [e1]; exact h3
              refine wp_mono (evCode_sound (mskOf_le a1.len) hcf hit hm c hev hs0) (fun e1 a' w' hp => ?_)
              have fin : StOk B0 w0 I1 L s a' w' → bodyPost P fn (fun e w' => ∃ v I' L', e = .returned v ∧ Inv B0 w0 I' H' L' w' ∧ Ext I L I' L' ∧ Rep I' L' r v) .ret a' w' := by
                rintro ⟨I2, L2, b1, b2, b3, b4⟩
                obtain ⟨v, g1, g2⟩ := results_sound (fn := fn) b1 b4 hvs
                obtain ⟨I3, L3, c1, c2, c3⟩ := retPol_sound (pol := pol) a1 b1 b2 g2 hret
                exact ⟨b3, v, g1, v, I3, L3, rfl, c1, (a2.ext L).trans c2, c3⟩
              cases e1 with
              | normal => exact fin hp.2
              | ret => exact fin hp.2
              | exit id =>
                rcases he with h | h
                · rw [h] at hp; exact absurd hp.1 (by simp)
                · rw [h] at hp; exact absurd hp.1 (by simp)
              | goto l => exact hp.elim
              | panic c => exact hp.elim
              | outgrown => exact hp.elim

end Go.Ev
