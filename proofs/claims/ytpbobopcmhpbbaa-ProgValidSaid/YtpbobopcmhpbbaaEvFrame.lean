/- A call that was run over an empty heap of its own, seen over another one. -/
import Derived.Test.YtpbobopcmhpbbaaEvBody
set_option linter.unusedVariables false
set_option linter.unusedSimpArgs false
namespace Go.Ev
open Go.RowKit

variable {P : Program} {pol : Pol} {cf : CF} {it : It} {B0 : Nat} {w0 : Base} {w w' : World} {I I' : Imm} {H : List MB} {L : List Lay}

theorem Rep.bare {a : AV} {v : Value} (h : Rep I L a v) (hu : AV.under 0 a = true) (L2 : List Lay) : Rep I L2 a v := by
  have h1 : Rep I [] a v := by simpa using h.restrict hu
  exact h1.mono ⟨fun _ _ _ h => h, fun id l h => by simp at h⟩

/-- The caller's blocks behind such a call. -/
theorem Inv.behind (hi : Inv B0 w0 I H L w) {K : List MB} {L' : List Lay} (hj : Inv w.heap.size ⟨w, I⟩ I' K L' w') (hx : ∀ b o v, I b o = some v → I' b o = some v) : Inv B0 w0 I' H L w' := by
  have hx2 : Ext I L I' L := ⟨hx, (Ext.refl I L).lay⟩
  have hb := hj.below
  have h1 : Inv B0 w0 I H L w' := hi.same (hi.below.trans (hb.mono hi.base)) (Nat.le_trans hi.base hj.base) (fun b h => hb.block b h)
  refine ⟨h1.below, h1.base, h1.len, fun id m l hm hl => ?_, h1.inj, hj.imm, fun b o h => ?_⟩
  · have hlt := hi.lay_lt hl
    exact MbOk.mono hx2 (fun c => hj.old l.b c hlt) (h1.blk id m l hm hl)
  · have := hi.base
    rw [hj.old b o (by show b < w.heap.size; omega)]
    exact hi.old b o h

theorem frame_sound {f : Nat} {as : List AV} {H1 H' K : List MB} {r0 r : AV} (hu : AV.underL 0 as = true) (hs : CallSound P f as [] r0 K) (hr : rebase H1 (some (r0, K)) = some (r, H')) :
    CallSound P f as H1 r H' := by
  refine ⟨hs.1, fun B0 w0 w I L us hi hus => ?_⟩
  have hi0 : Inv w.heap.size ⟨w, I⟩ I [] [] w := ⟨Below.refl _ _, Nat.le_refl _, rfl, fun id m l h => by simp at h, fun i j l l' h => by simp at h, hi.imm, fun _ _ _ => rfl⟩
  have hus0 : RepL I [] as us := ⟨hus.1, fun i y hy => (hus.2 i y hy).bare ((underL_iff 0 as).1 hu y (List.mem_of_getElem? hy)) []⟩
  refine (hs.2 _ _ w I [] us hi0 hus0).mono ?_
  rintro e w' ⟨v, I', L', rfl, hj, hx, hv⟩
  have hb := hi.behind hj hx.imm
  unfold rebase at hr
  split at hr
  · rename_i q r1 heq
    simp at heq; obtain ⟨rfl, rfl⟩ := heq
    split at hr
    · rename_i hu1
      simp at hr; obtain ⟨rfl, rfl⟩ := hr
      exact ⟨v, I', L, rfl, hb, ⟨hx.imm, (Ext.refl I L).lay⟩, hv.bare hu1 L⟩
    · simp at hr
  · rename_i q k tot off len k' els z heq
    simp at heq; obtain ⟨rfl, rfl⟩ := heq
    split at hr
    · rename_i hu1
      simp at hr; obtain ⟨rfl, rfl⟩ := hr
      have hl1 : L'.length = 1 := by rw [hj.len]; rfl
      obtain ⟨l', hl'⟩ : ∃ l', L' = [l'] := by
        match L', hl1 with
        | [l'], _ => exact ⟨l', rfl⟩
      subst hl'
      have hblk : BlkOk w.heap.size I' [l'] w' k' els z l' := hj.blk 0 _ l' rfl rfl
      have hlb := hblk.hB
      have hxx : Ext I' L I' (L ++ [l']) := ext_push _ _ _
      refine ⟨v, I', L ++ [l'], rfl, ⟨hb.below, hb.base, by simp [hb.len], fun id m l hm hl => ?_, fun i j li lj g1 g2 g3 => ?_, hb.imm, hb.old⟩, (⟨hx.imm, (Ext.refl I L).lay⟩ : Ext I L I' L).trans hxx, ?_⟩
      · by_cases hid : id < L.length
        · rw [List.getElem?_append_left hid] at hl
          rw [List.getElem?_append_left (by rw [← hb.len]; exact hid)] at hm
          exact MbOk.mono hxx (fun _ => rfl) (hb.blk id m l hm hl)
        · have hie : id = L.length := by
            have := (List.getElem?_eq_some_iff.1 hl).1
            simp at this; omega
          subst hie
          rw [List.getElem?_append_right (Nat.le_refl _), Nat.sub_self] at hl
          rw [List.getElem?_append_right (by rw [hb.len]; exact Nat.le_refl _), hb.len, Nat.sub_self] at hm
          simp at hm hl
          subst hm; subst hl
          refine ⟨hblk.hk, hblk.ht, hblk.hsh, hblk.hz, Nat.le_trans hi.base hlb, hblk.wid, hblk.fit, ?_, hblk.free⟩
          obtain ⟨cs, T, f1, f2, f3, f4⟩ := BlkOk.blk hblk
          refine ⟨cs, T, f1, f2, fun i j x y g1 g2 g3 => ?_, f4⟩
          obtain ⟨u, u1, u2, u3⟩ := f3 i j x y g1 g2 g3
          refine ⟨u, u1, u2, u3.bare ?_ _⟩
          exact (under_cells 0 x).1 ((underL_iff 0 els).1 hu1 x (List.mem_of_getElem? g1)) y (List.mem_of_getElem? g2)
      · have hcase : ∀ (i : Nat) (li : Lay), (L ++ [l'])[i]? = some li → (L[i]? = some li) ∨ (i = L.length ∧ li = l') := by
          intro i li hli
          by_cases h : i < L.length
          · rw [List.getElem?_append_left h] at hli; exact .inl hli
          · rw [List.getElem?_append_right (by omega)] at hli
            have h4 := (List.getElem?_eq_some_iff.1 hli).1
            simp at h4
            have hie : i - L.length = 0 := by omega
            rw [hie] at hli
            simp at hli
            exact .inr ⟨by omega, hli.symm⟩
        have hne : ∀ (i : Nat) (li : Lay), L[i]? = some li → li.b ≠ l'.b := fun i li h e => by
          have := hi.lay_lt h; omega
        rcases hcase i li g1 with a | ⟨a1, a2⟩ <;> rcases hcase j lj g2 with b | ⟨b1, b2⟩
        · exact hb.inj i j li lj a b g3
        · subst b2; exact absurd g3 (hne i li a)
        · subst a2; exact absurd g3.symm (hne j lj b)
        · omega
      · cases hv with
        | ms _ _ _ _ _ l b o c hL ht hk hl hc hv2 =>
          have hll : l' = l := by simpa using hL
          subst hll
          exact .ms _ k tot off len l' b o c (by rw [← hb.len]; rw [List.getElem?_append_right (Nat.le_refl _), Nat.sub_self]; rfl) ht hk hl hc hv2
    · simp at hr
  · simp at hr

theorem evStep_sound (hext : ExtOk P pol) (hcf : CfOk P cf) (hit : ItOk it) (hm : P.follows .mixedOrders = true) : CfOk P (evStep P pol cf it) := by
  have hb := evBody_sound hext hcf hit hm
  intro f args H r H' h
  unfold evStep at h
  split at h
  · split at h
    · rename_i as H1 hz
      split at h
      · rename_i hu
        cases hq : evBody P pol cf it f as [] with
        | none => rw [hq] at h; simp [rebase] at h
        | some q =>
          obtain ⟨r0, K⟩ := q
          rw [hq] at h
          have hs := frame_sound hu (hb f as [] r0 K hq) h
          refine ⟨hs.1, fun B0 w0 w I L us hi hus => ?_⟩
          obtain ⟨I1, a1, a2, a3, a4⟩ := frzArgs_sound (pol := pol) f args 0 hi hz
          have hus1 : RepL I1 L as us := by
            refine ⟨by rw [hus.1, a3], fun i y hy => ?_⟩
            have hlt : i < args.length := by
              have := (List.getElem?_eq_some_iff.1 hy).1; omega
            exact a4 i _ y (List.getElem?_eq_getElem hlt) hy I1 (.refl I1) _ ((hus.2 i _ (List.getElem?_eq_getElem hlt)).mono (a2.ext L))
          refine (hs.2 B0 w0 w I1 L us a1 hus1).mono ?_
          rintro e w' ⟨v, I', L', e1, e2, e3, e4⟩
          exact ⟨v, I', L', e1, e2, (a2.ext L).trans e3, e4⟩
      · simp at h
    · simp at h
  · exact hb f args H r H' h

end Go.Ev
