/- The scan over the ends: plain laws. -/
import Derived.Test.YtjgmfjneajcbmaaGreatC14
import Derived.Test.YtjgmfjneajcbmaaGreatC06
import Derived.Test.YtjgmfjneajcbmaaGreatC11
set_option linter.unusedVariables false
set_option linter.unusedSimpArgs false
namespace Go.Ev
def WR (w:List Int) (b:Nat→Bool):Prop:=w.length=16∧∀ i,i < 16→∃ x:Nat,w[i]?=some (x:Int)∧x < 2 ^ 64∧∀ r,r < 64→x.testBit r=b (64 * i+r)
theorem WR.uniq {w w':List Int} {b b':Nat→Bool} (h:WR w b) (h':WR w' b') (hb:∀ j,j < 1024→b j=b' j):w=w':=by
 refine List.ext_getElem? fun i=>?_
 rcases Nat.lt_or_ge i 16 with hi|hi
 ·obtain⟨x,h1,h2,h3⟩:=h.2 i hi
  obtain⟨y,h4,h5,h6⟩:=h'.2 i hi
  have:x=y:=by
   refine Nat.eq_of_testBit_eq fun r=>?_
   rcases Nat.lt_or_ge r 64 with hr|hr
   ·rw[h3 r hr,h6 r hr,hb _ (by omega)]
   ·rw[Nat.testBit_lt_two_pow (Nat.lt_of_lt_of_le h2 (Nat.pow_le_pow_right (by omega) hr)),Nat.testBit_lt_two_pow (Nat.lt_of_lt_of_le h5 (Nat.pow_le_pow_right (by omega) hr))]
  rw[h1,h4,this]
 ·rw[List.getElem?_eq_none (by rw[h.1];exact hi),List.getElem?_eq_none (by rw[h'.1];exact hi)]
theorem WR.inj {w:List Int} {b b':Nat→Bool} (h:WR w b) (h':WR w b') {j:Nat} (hj:j < 1024):b j=b' j:=by
 obtain⟨x,h1,h2,h3⟩:=h.2 (j / 64) (by omega)
 obtain⟨y,h4,h5,h6⟩:=h'.2 (j / 64) (by omega)
 rw[h1]at h4
 have:x=y:=by have:=Option.some.inj h4;omega
 subst this
 have e:64 * (j / 64)+j % 64=j:=by omega
 have h7:=h3 (j % 64) (by omega)
 have h8:=h6 (j % 64) (by omega)
 rw[e]at h7 h8
 rw[← h7,h8]
theorem WR.congr {w:List Int} {b b':Nat→Bool} (h:WR w b) (hb:∀ j,j < 1024→b j=b' j):WR w b':=by
 refine⟨h.1,fun i hi=>?_⟩
 obtain⟨x,h1,h2,h3⟩:=h.2 i hi
 exact⟨x,h1,h2,fun r hr=>by rw[h3 r hr,hb _ (by omega)]⟩
theorem WR.zero:WR (List.replicate 16 0) fun _=>false:=by
 refine⟨rfl,fun i hi=>⟨0,?_,by decide,fun r _=>by simp⟩⟩
 rw[List.getElem?_replicate,if_pos hi];rfl
def xorW (x:Int) (r:Nat):Int:=IntKind.u64.wrap ((BitVec.ofInt 64 x ^^^ BitVec.ofInt 64 (2 ^ r:Int)).toNat:Int)
theorem xorW_eq {x r:Nat} (hx:x < 2 ^ 64) (hr:r < 64):xorW (x:Int) r=((x ^^^ 2 ^ r:Nat):Int):=by
 have h1:(2:Nat) ^ r < 2 ^ 64:=Nat.pow_lt_pow_right (by omega) hr
 have h2:x ^^^ 2 ^ r < 2 ^ 64:=Nat.xor_lt_two_pow hx h1
 have e1:(BitVec.ofInt 64 (x:Int)).toNat=x:=by
  rw[BitVec.ofInt_natCast,BitVec.toNat_ofNat,Nat.mod_eq_of_lt hx]
 have e2:(BitVec.ofInt 64 (2 ^ r:Int)).toNat=2 ^ r:=by
  have:(2 ^ r:Int)=((2 ^ r:Nat):Int):=by simp
  rw[this,BitVec.ofInt_natCast,BitVec.toNat_ofNat,Nat.mod_eq_of_lt h1]
 unfold xorW
 rw[BitVec.toNat_xor,e1,e2]
 simp only[IntKind.wrap,IntKind.bits,IntKind.signed]
 simp
 omega
theorem WR.tog {w:List Int} {b:Nat→Bool} (h:WR w b) {s:Nat} (hs:s < 1024) {x:Int} (hx:w[s / 64]?=some x):WR (w.set (s / 64) (xorW x (s % 64))) fun j=>if j=s then !b j else b j:=by
 refine⟨by rw[List.length_set];exact h.1,fun i hi=>?_⟩
 obtain⟨y,h1,h2,h3⟩:=h.2 i hi
 by_cases e:s / 64=i
 ·subst e
  rw[h1]at hx
  obtain rfl:(y:Int)=x:=Option.some.inj hx
  rw[List.getElem?_set_self (by rw[h.1];exact hi),xorW_eq h2 (by omega)]
  refine⟨_,rfl,Nat.xor_lt_two_pow h2 (Nat.pow_lt_pow_right (by omega) (by omega)),fun r hr=>?_⟩
  rw[Nat.testBit_xor,h3 r hr,Nat.testBit_two_pow]
  by_cases e2:s % 64=r
  ·have e3:64 * (s / 64)+r=s:=by omega
   simp only[if_pos e3];simp[e2]
  ·simp only[if_neg (show ¬ 64 * (s / 64)+r=s by omega)];simp[e2]
 ·rw[List.getElem?_set_ne e]
  refine⟨y,h1,h2,fun r hr=>?_⟩
  simp only[if_neg (show ¬ 64 * i+r=s by omega)];exact h3 r hr
def par (l:List (Int×Int)) (j:Nat):Bool:=l.countP (fun e=>decide (e.2=(j:Int))) % 2 == 1
theorem par_snoc (l:List (Int×Int)) (a:Int) (s:Nat):par (l++[(a,(s:Int))])=fun j=>if j=s then !par l j else par l j:=by
 funext j
 unfold par
 rw[List.countP_append]
 by_cases h:j=s
 ·subst h
  simp[List.countP_cons]
  rcases Nat.mod_two_eq_zero_or_one (l.countP fun e=>decide (e.2=(j:Int))) with h2|h2
  ·rw[h2];simp;omega
  ·rw[h2];simp;omega
 ·have:¬ ((s:Int)=(j:Int)):=by omega
  simp[List.countP_cons,this,h]
section scan
variable {L:List Spans} {top:Int} {S:List (Int×Int)} {E:List Int}
structure ScanOk (L:List Spans) (top:Int) (S:List (Int×Int)) (E:List Int):Prop where
 sets:∀ s∈L,SetV s
 top0:0≤top
 many:L.length≤1024
 perm:S.Perm (endsP top 0 L)
 sorted:S.Pairwise fun a b=>a.1≤b.1
 ends:EndsOk top E
 mem:∀ x,x∈E↔x=0∨∃ s∈L,∃ p∈s,(x=p.1∨x=p.2+1)∧x≤top
def From (S:List (Int×Int)) (j:Nat) (x:Int):Prop:=(∀ i e,i < j→S[i]?=some e→e.1 < x)∧∀ i e,j≤i→S[i]?=some e→x≤e.1
def Past (S:List (Int×Int)) (j:Nat) (x:Int):Prop:=(∀ i e,i < j→S[i]?=some e→e.1≤x)∧∀ i e,j≤i→S[i]?=some e→x < e.1
theorem ScanOk.at (h:ScanOk L top S E) {j:Nat} {e:Int×Int} (he:S[j]?=some e):(∃ k:Nat,e.2=(k:Int)∧k < L.length)∧e.1∈E∧0≤e.1∧e.1≤top:=by
 have hm:=h.perm.mem_iff.1 (List.mem_of_getElem? he)
 obtain⟨⟨k,h1,_,h2⟩,h3⟩:=endsP_mem hm
 have hE:=(h.mem e.1).2 (.inr h3)
 exact⟨⟨k,h1,by omega⟩,hE,h.ends.le _ hE⟩
theorem ScanOk.has (h:ScanOk L top S E) {x:Int} (hx:x∈E) (h0:x≠0):∃(j:Nat) (e:Int×Int),S[j]?=some e∧e.1=x:=by
 rcases(h.mem x).1 hx with h1|h1
 ·exact absurd h1 h0
 ·obtain⟨e,he,h2⟩:=endsP_has (i:=0) h1
  obtain⟨j,hj⟩:=List.getElem?_of_mem (h.perm.mem_iff.2 he)
  exact⟨j,e,hj,h2⟩
theorem Past.par (h:ScanOk L top S E) {j:Nat} {x:Int} (hx:x≤top) (hp:Past S j x) (k:Nat):par (S.take j) k=(colA L x).getD k false:=by
 have h1:=count_ends hx (L:=L) (i:=0) (j:=k) h.sets (Nat.zero_le _)
 rw[← h.perm.countP_eq,Nat.sub_zero]at h1
 have h2:S.countP (fun e=>decide (e.1≤x) && decide (e.2=(k:Int)))=(S.take j).countP fun e=>decide (e.2=(k:Int)):=by
  conv=>lhs;rw[← List.take_append_drop j S,List.countP_append]
  have e1:(S.drop j).countP (fun e=>decide (e.1≤x) && decide (e.2=(k:Int)))=0:=by
   rw[List.countP_eq_zero]
   intro e he
   obtain⟨i,hi⟩:=List.getElem?_of_mem he
   rw[List.getElem?_drop]at hi
   have:=hp.2 (j+i) e (by omega) hi
   simp;intro _;omega
  rw[e1,Nat.add_zero]
  refine List.countP_congr fun e he=>?_
  obtain⟨i,hi⟩:=List.getElem?_of_mem he
  rw[List.getElem?_take]at hi
  split at hi
  ·have:=hp.1 i e (by assumption) hi
   simp[this]
  ·cases hi
 unfold Ev.par
 rw[← h2,h1]
 cases (colA L x).getD k false<;>rfl
theorem lastP_of {E:List Int} {top x:Int} {k:Nat} (h:E[k]?=some x):lastP E top k=x:=by simp[lastP,h]
theorem lastP_end {E:List Int} {top:Int} {k:Nat} (h:E.length≤k):lastP E top k=top+1:=by simp[lastP,List.getElem?_eq_none h]
theorem EndsOk.lt (h:EndsOk top E) {i j:Nat} {x y:Int} (hi:E[i]?=some x) (hj:E[j]?=some y) (hij:i < j):x < y:=by
 obtain⟨h1,e1⟩:=List.getElem?_eq_some_iff.1 hi
 obtain⟨h2,e2⟩:=List.getElem?_eq_some_iff.1 hj
 have:=List.pairwise_iff_getElem.1 h.sorted i j h1 h2 hij
 rw[e1,e2]at this;exact this
theorem EndsOk.first (h:EndsOk top E):E[0]?=some 0:=by
 obtain⟨j,hj⟩:=List.getElem?_of_mem h.zero
 rcases Nat.eq_zero_or_pos j with rfl|h0
 ·exact hj
 ·have hlt:=(List.getElem?_eq_some_iff.1 hj).1
  obtain⟨x,hx⟩:∃ x,E[0]?=some x:=⟨_,List.getElem?_eq_getElem (by omega)⟩
  have h1:=h.lt hx hj h0
  have h2:=h.le x (List.mem_of_getElem? hx)
  omega
theorem EndsOk.step (h:EndsOk top E) {k:Nat} (hk:k < E.length):lastP E top k < lastP E top (k+1)∧0≤lastP E top k∧lastP E top k≤top∧lastP E top (k+1)≤top+1:=by
 obtain⟨x,hx⟩:∃ x,E[k]?=some x:=⟨_,List.getElem?_eq_getElem hk⟩
 have hl:=h.le x (List.mem_of_getElem? hx)
 rw[lastP_of hx]
 rcases Nat.lt_or_ge (k+1) E.length with h1|h1
 ·obtain⟨y,hy⟩:∃ y,E[k+1]?=some y:=⟨_,List.getElem?_eq_getElem h1⟩
  have hl2:=h.le y (List.mem_of_getElem? hy)
  rw[lastP_of hy]
  exact⟨h.lt hx hy (by omega),hl.1,hl.2,by omega⟩
 ·rw[lastP_end h1]
  exact⟨by omega,hl.1,hl.2,by omega⟩
theorem EndsOk.mono (h:EndsOk top E) {i j:Nat} (hij:i < j) (hj:j≤E.length):lastP E top i < lastP E top j:=by
 obtain⟨x,hx⟩:∃ x,E[i]?=some x:=⟨_,List.getElem?_eq_getElem (by omega)⟩
 rw[lastP_of hx]
 rcases Nat.lt_or_ge j E.length with h1|h1
 ·obtain⟨y,hy⟩:∃ y,E[j]?=some y:=⟨_,List.getElem?_eq_getElem h1⟩
  rw[lastP_of hy]
  exact h.lt hx hy hij
 ·rw[lastP_end h1]
  have:=(h.le x (List.mem_of_getElem? hx)).2
  omega
theorem Past.next (h:ScanOk L top S E) {j k:Nat} (hk:k < E.length) (hp:Past S j (lastP E top k)):lastP E top (k+1)=(match S[j]? with
  | some e=>e.1
  | none=>top+1)∧From S j (lastP E top (k+1)):=by
 obtain⟨x,hx⟩:∃ x,E[k]?=some x:=⟨_,List.getElem?_eq_getElem hk⟩
 have hl:=h.ends.le x (List.mem_of_getElem? hx)
 rw[lastP_of hx]at hp
 have hsort:∀(i i':Nat) (e e':Int×Int),i≤i'→S[i]?=some e→S[i']?=some e'→e.1≤e'.1:=fun i i' e e' hii h1 h2=>by
  rcases Nat.lt_or_eq_of_le hii with h3|rfl
  ·obtain⟨l1,q1⟩:=List.getElem?_eq_some_iff.1 h1
   obtain⟨l2,q2⟩:=List.getElem?_eq_some_iff.1 h2
   have:=List.pairwise_iff_getElem.1 h.sorted i i' l1 l2 h3
   rw[q1,q2]at this;exact this
  ·rw[h1]at h2;rw[Option.some.inj h2];exact Int.le_refl _
 have later:∀(m:Nat) (y:Int),k < m→E[m]?=some y→∃(i:Nat) (e:Int×Int),j≤i∧S[i]?=some e∧e.1=y:=fun m y hm hy=>by
  have hlt:=h.ends.lt hx hy hm
  obtain⟨i,e,hi,he⟩:=h.has (List.mem_of_getElem? hy) (by omega)
  refine⟨i,e,?_,hi,he⟩
  rcases Nat.lt_or_ge i j with h1|h1
  ·have:=hp.1 i e h1 hi;omega
  ·exact h1
 cases hS:S[j]? with
 | none=>
   have hk1:E.length≤k+1:=by
    rcases Nat.lt_or_ge (k+1) E.length with h1|h1
    ·obtain⟨i,e,h2,h3,_⟩:=later (k+1) _ (by omega) (List.getElem?_eq_getElem h1)
     have:=(List.getElem?_eq_some_iff.1 h3).1
     have:=List.getElem?_eq_none_iff.1 hS
     omega
    ·exact h1
   rw[lastP_end hk1]
   refine⟨rfl,fun i e hi he=>?_,fun i e hi he=>?_⟩
   ·have:=hp.1 i e hi he;omega
   ·have h1:=(List.getElem?_eq_some_iff.1 he).1
    have h2:=List.getElem?_eq_none_iff.1 hS
    omega
 | some e=>
   have hgt:=hp.2 j e (Nat.le_refl _) hS
   obtain⟨m,hm⟩:=List.getElem?_of_mem (h.at hS).2.1
   have hkm:k < m:=by
    rcases Nat.lt_or_ge k m with h1|h1
    ·exact h1
    ·rcases Nat.lt_or_eq_of_le h1 with h2|rfl
     ·have:=h.ends.lt hm hx h2;omega
     ·rw[hm]at hx;have:=Option.some.inj hx;omega
   have hmlt:=(List.getElem?_eq_some_iff.1 hm).1
   obtain⟨y,hy⟩:∃ y,E[k+1]?=some y:=⟨_,List.getElem?_eq_getElem (by omega)⟩
   obtain⟨i,e',h1,h2,h3⟩:=later (k+1) y (by omega) hy
   have h4:=hsort j i e e' h1 hS h2
   have h5:y≤e.1:=by
    rcases Nat.lt_or_eq_of_le (show k+1≤m by omega) with h6|rfl
    ·exact Int.le_of_lt (h.ends.lt hy hm h6)
    ·rw[hy]at hm;rw[Option.some.inj hm];exact Int.le_refl _
   have h6:y=e.1:=by omega
   rw[lastP_of hy,h6]
   refine⟨rfl,fun i' e2 hi he=>?_,fun i' e2 hi he=>hsort j i' e e2 hi hS he⟩
   have:=hp.1 i' e2 hi he;omega
theorem From.zero (h:ScanOk L top S E):From S 0 0:=⟨fun i e hi=>by omega,fun i e _ he=>(h.at he).2.2.1⟩
def Mid (S:List (Int×Int)) (j:Nat) (x:Int):Prop:=(∀ i e,i < j→S[i]?=some e→e.1≤x)∧∀ i e,j≤i→S[i]?=some e→x≤e.1
theorem From.mid {j:Nat} {x:Int} (h:From S j x):Mid S j x:=⟨fun i e hi he=>Int.le_of_lt (h.1 i e hi he),h.2⟩
theorem Mid.step {j:Nat} {x:Int} (h:Mid S j x) {e:Int×Int} (he:S[j]?=some e) (hx:e.1=x):Mid S (j+1) x:=by
 refine⟨fun i e' hi h1=>?_,fun i e' hi h1=>h.2 i e' (by omega) h1⟩
 rcases Nat.lt_succ_iff_lt_or_eq.1 hi with h2|rfl
 ·exact h.1 i e' h2 h1
 ·rw[he]at h1;rw[← Option.some.inj h1];omega
theorem Mid.past (hs:S.Pairwise fun a b=>a.1≤b.1) {j:Nat} {x:Int} (h:Mid S j x) (hn:∀ e,S[j]?=some e→e.1≠x):Past S j x:=by
 refine⟨h.1,fun i e hi he=>?_⟩
 have hlt:=(List.getElem?_eq_some_iff.1 he).1
 obtain⟨e0,h0⟩:∃ e0,S[j]?=some e0:=⟨_,List.getElem?_eq_getElem (by omega)⟩
 have h1:=h.2 j e0 (Nat.le_refl _) h0
 have h2:=hn e0 h0
 have h3:e0.1≤e.1:=by
  rcases Nat.lt_or_eq_of_le hi with h4|rfl
  ·obtain⟨l1,q1⟩:=List.getElem?_eq_some_iff.1 h0
   have:=List.pairwise_iff_getElem.1 hs j i l1 hlt h4
   rw[q1,(List.getElem?_eq_some_iff.1 he).2]at this;exact this
  ·rw[h0]at he;rw[Option.some.inj he];exact Int.le_refl _
 omega
end scan
end Go.Ev
namespace Go.Ev
attribute [local go_sem] frzB tySzE List.head?_drop Nat.mul_one sameAt_zero sameAt_two sameAt_three sameAt_four sameAt_five room_ok
section
attribute [local go_sem] evBin List.length_append List.map_append
open Go.Proofs Go.RowKit Go.IntWalk
set_option maxRecDepth 100000
set_option maxHeartbeats 4000000
abbrev setAV (s:Spans):AV:=.sl false (s.map spanAV)
theorem plain_sets (L:List Spans):AV.plainL (L.map setAV)=true:=by
 induction L with
 | nil=>rfl
 | cons a l ih=>simp[AV.plainL,AV.plain,plain_span,ih]
theorem endsR_take {top:Int} {L:List Spans} {i:Nat} {s:Spans} (h:L[i]?=some s):endsR (L.take (i+1)) top=putS top (endsR (L.take i) top) s:=by
 rw[List.take_add_one,h];simp[endsR]
theorem endsR_len {top:Int} (h0:0≤top):∀ {L:List Spans},(∀ s∈L,SetV s)→(∀ s∈L,s.length≤64)→(endsR L top).length≤1+128 * L.length:=by
 intro L hs hl
 have key:∀ i,i≤L.length→(endsR (L.take i) top).length≤1+128 * i:=by
  intro i
  induction i with
  | zero=>intro _;simp[endsR]
  | succ i ih=>
    intro hi
    obtain⟨s,hsi⟩:∃ s,L[i]?=some s:=⟨_,List.getElem?_eq_getElem (by omega)⟩
    have hm:=List.mem_of_getElem? hsi
    rw[endsR_take hsi]
    have h1:=(putS_ok (s:=s) (endsR_ok (L:=L.take i) h0 fun t ht=>hs t (List.mem_of_mem_take ht)) (fun p hp=>⟨((hs s hm).good p hp).1,((hs s hm).good p hp).2.1⟩)).2.1
    have h2:=hl s hm
    have h3:=ih (by omega)
    omega
 have:=key L.length (Nat.le_refl _)
 rw[List.take_length]at this
 exact this
theorem app_sp {H:List MB} {i n z:Nat} {rs:Spans} {p:Int×Int} {t:Bool} (hi:getRow H i=some (2,rs.map spanAV,z)) (hz:z≤n) (hn:rs.length=n) (hr:n+1≤4000000000) :
  evAppend Tryz.prog H 23 23 (.ms i 2 n 0 n) (.sl t [.agg [I p.1,I p.2]])=some (.ms i 2 (n+1) 0 (n+1),H.set i (.row 2 ((rs++[p]).map spanAV) z)):=by
 have hs:srcElems Tryz.prog H 40 (.sl t [.agg [I p.1,I p.2]])=some [.agg [I p.1,I p.2]]:=rfl
 rw[evAppend_end (e:=40) (by kernel_rfl) (by kernel_rfl) (k:=2) (by kernel_rfl) (by_:=16) (by kernel_rfl) (ze:=.agg [I 0,I 0]) (by kernel_rfl) rfl (by omega) hs (by simp[AV.cells,AV.ok]) hi (by rw[List.length_map];exact hn) hz (room_ok (by simp;omega) (by omega))]
 rw[List.map_append];rfl
theorem app_st {H:List MB} {i n z:Nat} {rs:List Spans} {p:Spans} {t:Bool} (hi:getRow H i=some (1,rs.map setAV,z)) (hz:z≤n) (hn:rs.length=n) (hr:n+1≤4000000000) :
  evAppend Tryz.prog H 90 90 (.ms i 1 n 0 n) (.sl t [.sl false (p.map spanAV)])=some (.ms i 1 (n+1) 0 (n+1),H.set i (.row 1 ((rs++[p]).map setAV) z)):=by
 have hs:srcElems Tryz.prog H 23 (.sl t [.sl false (p.map spanAV)])=some [.sl false (p.map spanAV)]:=rfl
 rw[evAppend_end (e:=23) (by kernel_rfl) (by kernel_rfl) (k:=1) (by kernel_rfl) (by_:=24) (by kernel_rfl) (ze:=.sl true []) (by kernel_rfl) rfl (by omega) hs (by simp[AV.cells,AV.ok]) hi (by rw[List.length_map];exact hn) hz (room_ok (by simp;omega) (by omega))]
 rw[List.map_append];rfl
def splitR:Option (List Spans)→AV
 | none=>.tup [.sl false [],I 4]
 | some cls=>.tup [.sl false (cls.map setAV),I 0]
end
section
attribute [local go_sem] evBin AV.cells
open Go.Proofs Go.RowKit Go.IntWalk
set_option maxRecDepth 100000
set_option maxHeartbeats 4000000
theorem sf68 {H:List MB} {id n:Nat} {O:Spans} {p:Int×Int} (hr:H[id]?=some (.row 2 (O.map spanAV) 0)) (hn:O.length=n) (h0:0 < n) (hl:n≤1000000) (hO:∀ q∈O,q.2≤1114111) (hp:0≤p.1∧p.1≤p.2∧p.2≤1114111) (hq:∀ q∈O,0≤q.2) :
  call Tryz.prog pol1 68 [.ms id 2 n 0 n,.agg [I p.1,I p.2]] H=some (.ms id 2 (addI O p).length 0 (addI O p).length,H.set id (.row 2 ((addI O p).map spanAV) 0)++[.row 2 [spanAV p] 0]):=by
 have hlt:=(List.getElem?_eq_some_iff.1 hr).1
 have fr:frzArgs pol1 68 0 [.ms id 2 n 0 n,.agg [I p.1,I p.2]] H=some ([.ms id 2 n 0 n,.agg [I p.1,I p.2]],H):=frzArgs_mix _ _ _ rfl
 refine call_run2 (pol:=pol1) Tryz.func68 rfl rfl rfl rfl fr ?_
 have rp:∀ H1 r H,retPol pol1 68 H1 r H=some (r,H):=fun H1 r H=>rfl
 rcases List.eq_nil_or_concat O with rfl|⟨O',q,rfl⟩
 ·simp at hn;omega
 ·rw[List.concat_eq_append]at *
  have hgq:=hO q (by simp)
  have hgq0:=hq q (by simp)
  obtain rfl:n=O'.length+1:=by simpa using hn.symm
  have hg1:∀ x:MB,(H++[x])[id]?=some (.row 2 ((O'++[q]).map spanAV) 0):=fun x=>by rw[List.getElem?_append_left hlt];exact hr
  have hs1:∀ x y:MB,(H++[x]).set id y=H.set id y++[x]:=fun x y=>List.set_append_left _ _ hlt
  have hgl:=fun x:MB=>kget_last H x
  rw[addI_snoc]
  have hget:((O'++[q]).map spanAV)[O'.length]?=some (spanAV q):=by simp
  have hlen:((O'++[q]).map spanAV).length=O'.length+1:=by simp
  by_cases hm:p.1≤q.2+1
  ·rw[if_pos hm]
   have hmx:(if p.2 > q.2 then p.2 else q.2)=max q.2 p.2:=by split<;>omega
   have hst:((O'++[q]).map spanAV).set O'.length (.agg [I q.1,I (max q.2 p.2)])=(O'++[(q.1,max q.2 p.2)]).map spanAV:=by simp[List.set_append]
   have hlen2:(O'++[(q.1,max q.2 p.2)]).length=O'.length+1:=by simp
   generalize hE:(O'++[q]).map spanAV=E at *
   simp +contextual (disch:=omega) only[Tryz.f68,dd68,go_sem,simprocAttr,evAppend,List.length_append,List.map_append,mu68,↓wrap_up,↓wrap_down,↓wrap_pred,↓wrap_sub_nat,hg1,hs1,hgl,hget,hlen,evMax,hmx]
   repeat' (first|intro _|apply And.intro|(unfold dOk;kernel_rfl)|exact St.beq_refl _|(show altO _ _ _ _=true;kernel_rfl)|(show (_ || _)=true;kernel_rfl)|(show (_ && _)=true;kernel_rfl))
   rw[hst,rp]
   simp
  ·rw[if_neg hm]
   have a1:=fun(x:MB) (t:Bool)=>app_sp (H:=H++[x]) (i:=id) (p:=p) (t:=t) (by unfold getRow;rw[hg1]) (Nat.zero_le _) (show (O'++[q]).length=O'.length+1 by simp) (by omega)
   simp only[hs1]at a1
   have hlen2:(O'++[q]++[p]).length=O'.length+1+1:=by simp
   generalize hE:(O'++[q]).map spanAV=E at *
   simp +contextual (disch:=omega) only[Tryz.f68,dd68,go_sem,simprocAttr,List.length_append,List.map_append,mu68,↓wrap_up,↓wrap_down,↓wrap_pred,↓wrap_sub_nat,hg1,hs1,hgl,hget,hlen,a1]
   repeat' (first|intro _|apply And.intro|(unfold dOk;kernel_rfl)|exact St.beq_refl _|(show altO _ _ _ _=true;kernel_rfl)|(show (_ || _)=true;kernel_rfl)|(show (_ && _)=true;kernel_rfl))
   rw[rp]
theorem sf68n (H:List MB) (p:Int×Int) :
  call Tryz.prog pol1 68 [.sl true [],.agg [I p.1,I p.2]] H=some (.ms (H.length+1) 2 1 0 1,H++[.row 2 [spanAV p] 0]++[.row 2 [spanAV p] 0]):=by
 have fr:frzArgs pol1 68 0 [.sl true [],.agg [I p.1,I p.2]] H=some ([.sl true [],.agg [I p.1,I p.2]],H):=frzArgs_mix _ _ _ rfl
 refine call_run2 (pol:=pol1) Tryz.func68 rfl rfl rfl rfl fr ?_
 have rp:∀ H1 r H,retPol pol1 68 H1 r H=some (r,H):=fun H1 r H=>rfl
 have hgl:=fun x:MB=>kget_last H x
 simp +contextual (disch:=omega) only[Tryz.f68,dd68,go_sem,simprocAttr,evAppend,List.length_append,List.map_append,mu68,↓wrap_up,↓wrap_down,↓wrap_pred,↓wrap_sub_nat,hgl]
 repeat' (first|intro _|apply And.intro|(unfold dOk;kernel_rfl)|exact St.beq_refl _|(show altO _ _ _ _=true;kernel_rfl)|(show (_ || _)=true;kernel_rfl)|(show (_ && _)=true;kernel_rfl))
 rw[rp]
theorem app_e {H:List MB} {i n z:Nat} {rs:List (Int×Int)} {p:Int×Int} {t:Bool} (hi:getRow H i=some (2,rs.map el2,z)) (hz:z≤n) (hn:rs.length=n) (hr:n+1≤4000000000) :
  evAppend Tryz.prog H 129 129 (.ms i 2 n 0 n) (.sl t [.agg [I p.1,I p.2]])=some (.ms i 2 (n+1) 0 (n+1),H.set i (.row 2 ((rs++[p]).map el2) z)):=by
 have hs:srcElems Tryz.prog H 135 (.sl t [.agg [I p.1,I p.2]])=some [.agg [I p.1,I p.2]]:=rfl
 rw[evAppend_end (e:=135) (by kernel_rfl) (by kernel_rfl) (k:=2) (by kernel_rfl) (by_:=16) (by kernel_rfl) (ze:=.agg [I 0,I 0]) (by kernel_rfl) rfl (by omega) hs (by simp[AV.cells,AV.ok]) hi (by rw[List.length_map];exact hn) hz (room_ok (by simp;omega) (by omega))]
 rw[List.map_append];rfl
theorem plain_el2 (l:List (Int×Int)):AV.plainL (l.map el2)=true:=by
 induction l with
 | nil=>rfl
 | cons a l ih=>simp[AV.plainL,ih];rfl
theorem endsP_snoc (top:Int) (s:Spans):∀(L:List Spans) (i:Nat),endsP top i (L++[s])=endsP top i L++endS top (i+L.length) s
 | [],i=>by simp[endsP]
 | t::L,i=>by simp[endsP,endsP_snoc top s L (i+1),Nat.add_comm,Nat.add_left_comm]
theorem endsP_take {top:Int} {L:List Spans} {i:Nat} {s:Spans} (h:L[i]?=some s):endsP top 0 (L.take (i+1))=endsP top 0 (L.take i)++endS top i s:=by
 have hlt:=(List.getElem?_eq_some_iff.1 h).1
 rw[List.take_add_one,h,Option.toList_some,endsP_snoc,Nat.zero_add,List.length_take_of_le (Nat.le_of_lt hlt)]
theorem endS_take {top:Int} {i k:Nat} {s:Spans} {p:Int×Int} (h:s[k]?=some p):endS top i (s.take (k+1))=endS top i (s.take k)++((if p.1≤top then [(p.1,(i:Int))] else [])++(if p.2+1≤top then [(p.2+1,(i:Int))] else [])):=by
 rw[List.take_add_one,h];simp[endS]
theorem ends_small {top:Int} {L:List Spans} (htp:top≤1114111) (hs:∀ s∈L,SetV s):∀ x∈endsP top 0 L,Small x:=fun x hx=>by
 obtain⟨_,s,hs',p,hp,h1,h2⟩:=endsP_mem hx
 have:=(hs s hs').good p hp
 unfold Small
 omega
theorem sf67 (L:List Spans) (top:Int) (h0:0≤top) (htp:top≤1114111) (hs:∀ s∈L,SetV s) (hl:L.length≤8192) (hsl:∀ s∈L,s.length≤64) (H:List MB) :
  call Tryz.prog pol1 67 [.sl false (L.map setAV),I top] H=some (.sl false ((sortE (endsP top 0 L)).map el2),H):=by
 have hpl:=plain_sets L
 refine call_run Tryz.func67 rfl rfl rfl rfl rfl rfl (fun _=>rfl) (by simp[AV.plain,AV.plainL,hpl]) (by simp[AV.plain,plain_el2]) ?_ H
 simp +contextual (disch:=omega) only[Tryz.f67,dd67,go_sem,simprocAttr,evAppend,List.length_append,List.map_append,mu67,↓wrap_up,↓wrap_down,↓wrap_pred,↓wrap_sub_nat]
 refine W_count (M:=(mskOf (pol1.mask 67) (pol1.gc 67) (pol1.acts 67) 0 3)) rfl L.length (fun i=>(⟨52,[(12,I i),(11,I L.length),(10,.sl false (L.map setAV)),(5,.ms 0 2 (endsP top 0 (L.take i)).length 0 (endsP top 0 (L.take i)).length),(1,I top)],[.row 2 ((endsP top 0 (L.take i)).map el2) 0]⟩:St)) (fun i=>True) ?_ ?_ trivial _ (by first|rfl|(refine prep_cut rfl (by rfl) (by rfl) (by rfl) ?_ ?_<;>simp[AV.underL,AV.under,MB.under,underL_plain,under_plain,plain_ints,plain_span,plain_ins,plain_prg,-List.map_take,plain_sets,plain_el2]))
 ·intro i hi _
  obtain⟨s,hsi⟩:∃ s,L[i]?=some s:=⟨_,List.getElem?_eq_getElem hi⟩
  have hsi':(L.map setAV)[i]?=some (setAV s):=by simp[hsi]
  have hm:=List.mem_of_getElem? hsi
  have hv:=hs s hm
  have hsl1:=hsl s hm
  have hst:=endsP_take (top:=top) hsi
  have hln:=endsP_len (top:=top) (L:=L.take i) (i:=0) (fun s hs=>hsl s (List.mem_of_mem_take hs))
  have l1:=List.length_take_le i L
  generalize endsP top 0 (L.take i)=l at *
  simp +contextual (disch:=omega) only[Tryz.f67,dd67,go_sem,simprocAttr,evAppend,List.length_append,List.map_append,mu67,↓wrap_up,↓wrap_down,↓wrap_pred,↓wrap_sub_nat,hsi']
  refine W_count (M:=(mskOf (pol1.mask 67) (pol1.gc 67) (pol1.acts 67) 0 6)) rfl s.length (fun k=>(⟨52,[(19,I k),(18,I s.length),(17,.sl false (s.map spanAV)),(12,I i),(11,I L.length),(10,.sl false (L.map setAV)),(6,I i),(5,.ms 0 2 (l++endS top i (s.take k)).length 0 (l++endS top i (s.take k)).length),(1,I top)],[.row 2 ((l++endS top i (s.take k)).map el2) 0]⟩:St)) (fun i=>True) ?_ ?_ trivial _ ?_
  ·intro k hk _
   obtain⟨p,hp⟩:∃ p,s[k]?=some p:=⟨_,List.getElem?_eq_getElem hk⟩
   have hp':(s.map spanAV)[k]?=some (spanAV p):=by simp[hp]
   have hg:=hv.good p (List.mem_of_getElem? hp)
   have hst2:=endS_take (top:=top) (i:=i) hp
   have hln2:=endS_len top i (s.take k)
   have l3:=List.length_take_le k s
   have hw:IntKind.i64.wrap (p.2+1)=p.2+1:=by rw[i64_in];omega
   have hlen3:(l++endS top i (s.take k)).length≤4000000:=by rw[List.length_append];omega
   have hst3:l++endS top i (s.take (k+1))=(l++endS top i (s.take k))++((if p.1≤top then [(p.1,(i:Int))] else [])++(if p.2+1≤top then [(p.2+1,(i:Int))] else [])):=by rw[hst2,List.append_assoc]
   generalize l++endS top i (s.take (k+1))=l2 at *
   generalize l++endS top i (s.take k)=l1 at *
   have a1:=fun(x:MB) (t:Bool)=>app_e (H:=[MB.row 2 (l1.map el2) 0,x]) (i:=0) (p:=(p.1,(i:Int))) (t:=t) rfl (Nat.zero_le _) rfl (by omega)
   have a2:=fun(x:MB) (t:Bool)=>app_e (H:=[MB.row 2 (l1.map el2) 0,x]) (i:=0) (p:=(p.2+1,(i:Int))) (t:=t) rfl (Nat.zero_le _) rfl (by omega)
   have a3:=fun(x:MB) (t:Bool)=>app_e (H:=[MB.row 2 ((l1++[(p.1,(i:Int))]).map el2) 0,x]) (i:=0) (n:=l1.length+1) (p:=(p.2+1,(i:Int))) (t:=t) rfl (Nat.zero_le _) (by simp) (by omega)
   simp only[List.set_cons_zero]at a1 a2 a3
   by_cases h1:p.1≤top
   ·by_cases h2:p.2+1≤top
    ·rw[if_pos h1,if_pos h2]at hst3
     have e1:l2=l1++[(p.1,(i:Int))]++[(p.2+1,(i:Int))]:=by rw[hst3];simp
     have e2:l2.length=l1.length+1+1:=by rw[e1];simp
     rw[← e1]at a3
     rw[e2]
     simp +contextual (disch:=omega) only[Tryz.f67,dd67,go_sem,simprocAttr,mu67,↓wrap_up,↓wrap_down,↓wrap_pred,↓wrap_sub_nat,hp',hw,a1,a3]
     exact(by first|rfl|(refine prep_cut rfl (by rfl) (by rfl) (by rfl) ?_ ?_<;>simp[AV.underL,AV.under,MB.under,underL_plain,under_plain,plain_ints,plain_span,plain_ins,plain_prg,-List.map_take,plain_sets,plain_el2]))
    ·rw[if_pos h1,if_neg h2,List.append_nil]at hst3
     have e2:l2.length=l1.length+1:=by rw[hst3];simp
     rw[← hst3]at a1
     rw[e2]
     simp +contextual (disch:=omega) only[Tryz.f67,dd67,go_sem,simprocAttr,mu67,↓wrap_up,↓wrap_down,↓wrap_pred,↓wrap_sub_nat,hp',hw,a1]
     exact(by first|rfl|(refine prep_cut rfl (by rfl) (by rfl) (by rfl) ?_ ?_<;>simp[AV.underL,AV.under,MB.under,underL_plain,under_plain,plain_ints,plain_span,plain_ins,plain_prg,-List.map_take,plain_sets,plain_el2]))
   ·rw[if_neg h1,if_neg (by omega),List.append_nil,List.append_nil]at hst3
    have h2:¬ p.2+1≤top:=by omega
    rw[hst3]
    simp +contextual (disch:=omega) only[Tryz.f67,dd67,go_sem,simprocAttr,mu67,↓wrap_up,↓wrap_down,↓wrap_pred,↓wrap_sub_nat,hp',hw]
    exact(by first|rfl|(refine prep_cut rfl (by rfl) (by rfl) (by rfl) ?_ ?_<;>simp[AV.underL,AV.under,MB.under,underL_plain,under_plain,plain_ints,plain_span,plain_ins,plain_prg,-List.map_take,plain_sets,plain_el2]))
  ·intro _
   rw[List.take_length,← hst]
   simp +contextual (disch:=omega) only[Tryz.f67,dd67,go_sem,simprocAttr,mu67,↓wrap_up,↓wrap_down,↓wrap_pred,↓wrap_sub_nat]
   exact(by first|rfl|(refine prep_cut rfl (by rfl) (by rfl) (by rfl) ?_ ?_<;>simp[AV.underL,AV.under,MB.under,underL_plain,under_plain,plain_ints,plain_span,plain_ins,plain_prg,-List.map_take,plain_sets,plain_el2]))
  ·rw[List.take_zero,show endS top i []=[] from rfl,List.append_nil]
   exact(by first|rfl|(refine prep_cut rfl (by rfl) (by rfl) (by rfl) ?_ ?_<;>simp[AV.underL,AV.under,MB.under,underL_plain,under_plain,plain_ints,plain_span,plain_ins,plain_prg,-List.map_take,plain_sets,plain_el2]))
 ·intro _
  rw[List.take_length]
  have hln:=endsP_len (top:=top) (L:=L) (i:=0) hsl
  have hsm:=ends_small htp hs
  have hse:=sortE_length hsm
  generalize endsP top 0 L=l at *
  obtain⟨H',h1,h2⟩:=sort2_eval hsm (n:=l.length) rfl (by omega) (H:=[.row 2 (l.map el2) 0]) (id:=0) rfl
  have h102:call Tryz.prog pol1 102 [.ms 0 2 l.length 0 l.length,.clo 103 []] [.row 2 (l.map el2) 0]=some (.tup [],H'):=by
   rw[call_eq]
   unfold evStep
   rw[if_neg (show ¬ pol1.pure 102=true by decide)]
   exact h1
  simp +contextual (disch:=omega) only[Tryz.f67,dd67,go_sem,simprocAttr,mu67,↓wrap_up,↓wrap_down,↓wrap_pred,↓wrap_sub_nat,h102]
  exact⟨_,fz_row h2 (by rw[List.length_map];exact hse) (plain_el2 _)⟩
end
section
attribute [local go_sem] List.length_append List.map_append
open Go.Proofs Go.RowKit Go.IntWalk
set_option maxRecDepth 100000
set_option maxHeartbeats 4000000
abbrev U (n:Int):AV:=.int .u64 n
abbrev wAV (w:List Int):AV:=.agg (w.map U)
theorem beqL_U:∀ {a b:List Int},AV.beqL (a.map U) (b.map U)=true↔a=b
 | [],[]=>by simp[AV.beqL]
 | [],_::_=>by simp[AV.beqL]
 | _::_,[]=>by simp[AV.beqL]
 | x::a,y::b=>by
   have:=@beqL_U a b
   simp[AV.beqL,AV.beq,this]
theorem beq_wAV {a b:List Int}:AV.beq (wAV a) (wAV b)=true↔a=b:=beqL_U
def ent:Nat→List (List Int)→List (AV×AV)
 | _,[]=>[]
 | i,w::ws=>(wAV w,I i)::ent (i+1) ws
theorem find_ent {w:List Int}:∀ {ws:List (List Int)} {i n:Nat},ws[n]?=some w→(∀ m,ws[m]?=some w→m=n)→findMp (wAV w) (ent i ws)=some (I ((i+n:Nat):Int))
 | [],i,n,h,_=>by simp at h
 | v::ws,i,n,h,hu=>by
   simp only[ent,findMp]
   by_cases e:v=w
   ·rw[if_pos (beq_wAV.2 e)]
    have:=hu 0 (by simp[e])
    subst this;rfl
   ·rw[if_neg (fun h2=>e (beq_wAV.1 h2))]
    cases n with
    | zero=>simp at h;exact absurd h e
    | succ n=>
      rw[find_ent (ws:=ws) (i:=i+1) (n:=n) (by simpa using h) (fun m hm=>by have:=hu (m+1) (by simpa using hm);omega)]
      congr 3;omega
theorem find_none {w:List Int}:∀ {ws:List (List Int)} {i:Nat},w ∉ ws→findMp (wAV w) (ent i ws)=none
 | [],i,_=>rfl
 | v::ws,i,h=>by
   simp only[ent,findMp]
   rw[if_neg (fun h2=>h (by rw[beq_wAV.1 h2];simp))]
   exact find_none fun h2=>h (by simp[h2])
theorem upd_ent {w:List Int}:∀ {ws:List (List Int)} {i:Nat},w ∉ ws→updMp (wAV w) (I ((i+ws.length:Nat):Int)) (ent i ws)=ent i (ws++[w])
 | [],i,_=>by simp[ent,updMp]
 | v::ws,i,h=>by
   simp only[ent,updMp,List.cons_append]
   rw[if_neg (fun h2=>h (by rw[beq_wAV.1 h2];simp))]
   have:=upd_ent (w:=w) (ws:=ws) (i:=i+1) fun h2=>h (by simp[h2])
   rw[← this]
   congr 4
   simp;omega
theorem cells_rep (k:IntKind):∀(w:List Int) (n:Nat),w.length=n→cellsOk (List.replicate n (some k)) (w.map (AV.int k))=true
 | [],n,h=>by simp at h;subst h;rfl
 | x::w,n,h=>by
   simp at h;subst h
   rw[List.replicate_succ,List.map_cons]
   simp only[cellsOk,decide_true,Bool.true_and]
   exact cells_rep k w _ rfl
theorem cells16 {w:List Int} (h:w.length=16):cellsOk [some .u64,some .u64,some .u64,some .u64,some .u64,some .u64,some .u64,some .u64,some .u64,some .u64,some .u64,some .u64,some .u64,some .u64,some .u64,some .u64] (w.map U)=true:=cells_rep .u64 w 16 h
def clsAV (ids:List Nat) (cls:List Spans):List AV:=List.zipWith (fun id c=>AV.ms id 2 c.length 0 c.length) ids cls
theorem clsAV_len {ids:List Nat} {cls:List Spans} (h:ids.length=cls.length):(clsAV ids cls).length=cls.length:=by simp[clsAV,h]
theorem clsAV_at {ids:List Nat} {cls:List Spans} {n id:Nat} {c:Spans} (h1:ids[n]?=some id) (h2:cls[n]?=some c):(clsAV ids cls)[n]?=some (.ms id 2 c.length 0 c.length):=by
 simp[clsAV,List.getElem?_zipWith,h1,h2]
theorem clsAV_set {ids:List Nat} {cls:List Spans} {n id:Nat} (h1:ids[n]?=some id) (c:Spans):(clsAV ids cls).set n (.ms id 2 c.length 0 c.length)=clsAV ids (cls.set n c):=by
 refine List.ext_getElem? fun i=>?_
 unfold clsAV
 rw[List.getElem?_set,List.getElem?_zipWith,List.getElem?_zipWith,List.getElem?_set,List.length_zipWith]
 by_cases e:n=i
 ·subst e
  have hlt:=(List.getElem?_eq_some_iff.1 h1).1
  rw[if_pos rfl,if_pos rfl,h1]
  by_cases h:n < cls.length
  ·rw[if_pos (by omega),if_pos h]
  ·rw[if_neg (by omega),if_neg h]
 ·rw[if_neg e,if_neg e]
theorem clsAV_snoc {ids:List Nat} {cls:List Spans} (h:ids.length=cls.length) (id:Nat) (c:Spans):clsAV (ids++[id]) (cls++[c])=clsAV ids cls++[.ms id 2 c.length 0 c.length]:=by
 unfold clsAV
 rw[List.zipWith_append h]
 rfl
theorem mark_get {H:List MB} {id n i k z:Nat} {els:List AV} (h:getRow H i=some (k,els,z)):∃ z',getRow (mark H id n) i=some (k,els,z'):=by
 unfold mark
 cases hr:getRow H id with
 | none=>exact⟨z,h⟩
 | some x=>
   obtain⟨k',els',z0⟩:=x
   simp only
   have hi:=getRow_eq h
   have hid:=getRow_eq hr
   unfold getRow
   by_cases e:id=i
   ·subst e
    rw[h]at hr
    cases hr
    rw[List.getElem?_set_self (List.getElem?_eq_some_iff.1 hid).1]
    exact⟨_,rfl⟩
   ·rw[List.getElem?_set_ne e,hi]
    exact⟨z,rfl⟩
theorem fzL_cls (k:Nat):∀(ids:List Nat) (cls:List Spans) (H:List MB),ids.length=cls.length→(∀(n id:Nat) (c:Spans),ids[n]?=some id→cls[n]?=some c→∃ z,getRow H id=some (2,c.map spanAV,z)) →
  ∃ H',fzL (fzJ (k+1)) (clsAV ids cls) H=some (cls.map setAV,H')
 | [],[],H,_,_=>⟨H,rfl⟩
 | [],_::_,H,h,_=>by simp at h
 | _::_,[],H,h,_=>by simp at h
 | id::ids,c::cls,H,h,hr=>by
   obtain⟨z,h0⟩:=hr 0 id c rfl rfl
   have h1:=fzA_row (n:=k) h0 (List.length_map _) (plain_span c)
   obtain⟨H',h2⟩:=fzL_cls k ids cls (mark H id c.length) (by simpa using h) (fun n id' c' a b=>by
    obtain⟨z',h3⟩:=hr (n+1) id' c' (by simpa using a) (by simpa using b)
    exact mark_get h3)
   refine⟨H',?_⟩
   show fzL (fzJ (k+1)) (.ms id 2 c.length 0 c.length::clsAV ids cls) H=_
   simp only[fzL,h1,h2]
   rfl
structure ClsOk (H:List MB) (ids:List Nat) (cls:List Spans):Prop where
 len:ids.length=cls.length
 out:H[2]?=some (.row 1 (clsAV ids cls) 0)
 rows:∀(n id:Nat) (c:Spans),ids[n]?=some id→cls[n]?=some c→H[id]?=some (.row 2 (c.map spanAV) 0)
 nodup:ids.Nodup
 high:∀ id∈ids,3≤id
theorem ClsOk.fz {H:List MB} {ids:List Nat} {cls:List Spans} (h:ClsOk H ids cls) {n:Nat} (hn:cls.length=n):∃ H',fz (.tup [.ms 2 1 n 0 n,I 0]) H=some (.tup [.sl false (cls.map setAV),I 0],H'):=by
 subst hn
 have h0:getRow H 2=some (1,clsAV ids cls,0):=by unfold getRow;rw[h.out]
 obtain⟨H',h1⟩:=fzL_cls 4 ids cls (mark H 2 (0+cls.length)) h.len (fun n id c a b=>mark_get (z:=0) (by unfold getRow;rw[h.rows n id c a b]))
 have hl:=clsAV_len h.len
 refine⟨H',?_⟩
 unfold Ev.fz
 rw[fzA_tup]
 have h2:fzA (fzJ 6) (.ms 2 1 cls.length 0 cls.length) H=some (.sl false (cls.map setAV),H'):=
  fzA_ms h0 hl (by omega) (by rw[List.drop_zero,List.take_of_length_le (by omega)];exact h1)
 simp only[fzL,h2]
 rfl
theorem ClsOk.put {H:List MB} {ids:List Nat} {cls:List Spans} (h:ClsOk H ids cls) {i:Nat} (hi:i < 2) (x:MB):ClsOk (H.set i x) ids cls:=
 ⟨h.len,by rw[List.getElem?_set_ne (by omega)];exact h.out,fun n id c a b=>by
   have:=h.high id (List.mem_of_getElem? a)
   rw[List.getElem?_set_ne (by omega)];exact h.rows n id c a b,h.nodup,h.high⟩
theorem evBin_xor' (x r:Int) (n:Nat) (h:r=2 ^ n):evBin .xor .u64 x r=some (U (xorW x n)):=by subst h;rfl
theorem evBin_subS {k:IntKind} {a b:Int}:evBin .sub k a b=some (.int k (k.wrap (a - b))):=rfl
theorem evBin_addS {k:IntKind} {a b:Int}:evBin .add k a b=some (.int k (k.wrap (a+b))):=rfl
theorem evBin_gtrS {k:IntKind} {a b:Int}:evBin .gtr k a b=some (.bool (decide (a > b))):=rfl
theorem evBin_eqlS {k:IntKind} {a b:Int}:evBin .eql k a b=some (.bool (a == b)):=rfl
theorem evBin_quo64 (n:Nat) (h:n≤1000000):evBin .quo .i64 (n:Int) 64=some (I ((n / 64:Nat):Int)):=by
 have:IntKind.i64.wrap ((n:Int).tdiv 64)=((n / 64:Nat):Int):=by
  have e:(n:Int).tdiv 64=((n / 64:Nat):Int):=rfl
  rw[e,i64_in];omega
 show (if(64:Int)=0 then none else some (I (IntKind.i64.wrap ((n:Int).tdiv 64))))=_
 rw[if_neg (by decide),this]
theorem evBin_rem64 (n:Nat):evBin .rem .i64 (n:Int) 64=some (I ((n % 64:Nat):Int)):=by
 have:(n:Int).tmod 64=((n % 64:Nat):Int):=rfl
 show (if(64:Int)=0 then none else some (I ((n:Int).tmod 64)))=_
 rw[if_neg (by decide),this]
theorem shl_u64 (n:Nat) (h:n < 64):evShift .shl .u64 1 (n:Int)=some (U ((2:Int) ^ n)):=by
 have h1:min (n:Int).toNat IntKind.u64.bits=n:=by show min (n:Int).toNat 64=n;omega
 have h2:(2:Nat) ^ n < 2 ^ 64:=Nat.pow_lt_pow_right (by omega) h
 have h3:((2 ^ n:Nat):Int) < 18446744073709551616:=by
  have h6:(2:Nat) ^ 64=18446744073709551616:=by decide
  rw[h6]at h2
  omega
 rw[Int.natCast_pow]at h3
 have h4:(0:Int)≤2 ^ n:=Int.pow_nonneg (by omega)
 have h5:IntKind.u64.wrap (2 ^ n)=2 ^ n:=Int.emod_eq_of_lt h4 h3
 show (if(n:Int) < 0 then none else some (U (IntKind.u64.wrap (1 * 2 ^ (min (n:Int).toNat IntKind.u64.bits)))))=_
 rw[if_neg (by omega),h1,Int.one_mul,h5]
section split
variable (L:List Spans) (top:Int) (S:List (Int×Int)) (E:List Int)
structure XS where
 k:Nat
 j:Nat
 w:List Int
 ws:List (List Int)
 ids:List Nat
 H:List MB
def KK16:KK:=.flat 132 [some .u64,some .u64,some .u64,some .u64,some .u64,some .u64,some .u64,some .u64,some .u64,some .u64,some .u64,some .u64,some .u64,some .u64,some .u64,some .u64]
structure XI (k j:Nat) (w:List Int) (ws:List (List Int)) (ids:List Nat) (H:List MB):Prop where
 k_le:k≤E.length
 j_le:j≤S.length
 wr:WR w (par (S.take j))
 b0:H[0]?=some (.row 16 [wAV w] 0)
 b1:H[1]?=some (.mp KK16 (ent 0 ws))
 keys:ws.length=(firsts (colK L E top) k).length
 key:∀(n:Nat) (c:List Bool),(firsts (colK L E top) k)[n]?=some c→∃ w,ws[n]?=some w∧WR w fun s=>c.getD s false
 cls:ClsOk H ids (classesA (colK L E top) (pieceA E top) k)
 few:¬ tooBig (colK L E top) (pieceA E top) k
end split
theorem WR.len {w:List Int} {b:Nat→Bool} (h:WR w b):w.length=16:=h.1
theorem colK_len (L:List Spans) (E:List Int) (top:Int) (k:Nat):(colK L E top k).length=L.length:=by simp[colK,colA]
theorem firsts_lenC {L:List Spans} {E:List Int} {top:Int} {k:Nat} {c:List Bool} (h:c∈firsts (colK L E top) k):c.length=L.length:=by
 obtain⟨i,_,rfl⟩:=firsts_mem.1 h
 exact colK_len L E top i
theorem col_eq {c d:List Bool} (h:c.length=d.length) (hl:c.length≤1024) (he:∀ s,s < 1024→c.getD s false=d.getD s false):c=d:=by
 refine List.ext_getElem? fun i=>?_
 rcases Nat.lt_or_ge i c.length with h1|h1
 ·have:=he i (by omega)
  simp only[List.getD_eq_getElem?_getD]at this
  rw[List.getElem?_eq_getElem h1,List.getElem?_eq_getElem (by omega)]at this ⊢
  simpa using this
 ·rw[List.getElem?_eq_none h1,List.getElem?_eq_none (by omega)]
theorem splice_U {w:List Int} {i:Nat} (h:i < w.length) (y:Int):List.take i (w.map U)++U y::List.drop (i+1) (w.map U)=(w.set i y).map U:=by
 rw[List.map_set,List.set_eq_take_append_cons_drop,if_pos (by simpa using h)]
theorem XI.tog {L:List Spans} {top:Int} {S:List (Int×Int)} {E:List Int} {k j s:Nat} {w:List Int} {ws:List (List Int)} {ids:List Nat} {H:List MB} (h:XI L top S E k j w ws ids H) {e:Int×Int} (he:S[j]?=some e) (hes:e.2=(s:Int)) (hs:s < 1024) {x:Int} (hx:w[s / 64]?=some x) :
  XI L top S E k (j+1) (w.set (s / 64) (xorW x (s % 64))) ws ids (H.set 0 (.row 16 [wAV (w.set (s / 64) (xorW x (s % 64)))] 0)):=by
 have h1:=h.wr.tog hs hx
 have h2:par (S.take (j+1))=fun i=>if i=s then !par (S.take j) i else par (S.take j) i:=by
  obtain⟨a,b⟩:=e
  simp only at hes
  rw[List.take_add_one,he,hes]
  exact par_snoc _ _ _
 have h0:=(List.getElem?_eq_some_iff.1 h.b0).1
 exact⟨h.k_le,(List.getElem?_eq_some_iff.1 he).1,by rw[h2];exact h1,List.getElem?_set_self h0,by rw[List.getElem?_set_ne (by omega)];exact h.b1,h.keys,h.key,h.cls.put (by omega) _,h.few⟩
structure Upd (H H1:List MB) (id:Nat) (r:MB):Prop where
 at_:H1[id]?=some r
 len:H.length≤H1.length
 same:∀ i,i≠id→i < H.length→H1[i]?=H[i]?
theorem sf68u {H:List MB} {id n:Nat} {O:Spans} {p:Int×Int} (hr:H[id]?=some (.row 2 (O.map spanAV) 0)) (hn:O.length=n) (h0:0 < n) (hl:n≤1000000) (hO:∀ q∈O,q.2≤1114111) (hp:0≤p.1∧p.1≤p.2∧p.2≤1114111) (hq:∀ q∈O,0≤q.2) :
  ∃ H1,call Tryz.prog pol1 68 [.ms id 2 n 0 n,.agg [I p.1,I p.2]] H=some (.ms id 2 (addI O p).length 0 (addI O p).length,H1)∧Upd H H1 id (.row 2 ((addI O p).map spanAV) 0):=by
 have hlt:=(List.getElem?_eq_some_iff.1 hr).1
 refine⟨_,sf68 hr hn h0 hl hO hp hq,?_,by simp,fun i hi h=>?_⟩
 ·rw[List.getElem?_append_left (by rw[List.length_set];exact hlt),List.getElem?_set_self hlt]
 ·rw[List.getElem?_append_left (by rw[List.length_set];exact h),List.getElem?_set_ne (Ne.symm hi)]
theorem sf68nu (H:List MB) (p:Int×Int):∃ H1,call Tryz.prog pol1 68 [.sl true [],.agg [I p.1,I p.2]] H=some (.ms (H.length+1) 2 1 0 1,H1)∧Upd H H1 (H.length+1) (.row 2 ([p].map spanAV) 0):=by
 refine⟨_,sf68n H p,?_,by simp,fun i hi h=>?_⟩
 ·rw[List.append_assoc,List.getElem?_append_right (by omega)]
  simp
 ·rw[List.append_assoc,List.getElem?_append_left h]
theorem ClsOk.upd {H H1:List MB} {ids:List Nat} {cls:List Spans} (h:ClsOk H ids cls) {n id:Nat} {c:Spans} (hn:ids[n]?=some id) (hu:Upd H H1 id (.row 2 (c.map spanAV) 0)) :
  ClsOk (H1.set 2 (.row 1 ((clsAV ids cls).set n (.ms id 2 c.length 0 c.length)) 0)) ids (cls.set n c):=by
 have hid:=h.high id (List.mem_of_getElem? hn)
 have h2:=(List.getElem?_eq_some_iff.1 h.out).1
 have hl:=hu.len
 refine⟨by rw[List.length_set];exact h.len,?_,fun m id' c' a b=>?_,h.nodup,h.high⟩
 ·rw[List.getElem?_set_self (by omega),clsAV_set hn]
 ·have hid':=h.high id' (List.mem_of_getElem? a)
  rw[List.getElem?_set_ne (by omega)]
  rw[List.getElem?_set]at b
  by_cases e:n=m
  ·subst e
   rw[hn]at a
   obtain rfl:=Option.some.inj a
   rw[if_pos rfl]at b
   split at b
   ·rw[← Option.some.inj b];exact hu.at_
   ·cases b
  ·rw[if_neg e]at b
   have hne:id'≠id:=fun e2=>by
    obtain⟨l1,q1⟩:=List.getElem?_eq_some_iff.1 hn
    obtain⟨l2,q2⟩:=List.getElem?_eq_some_iff.1 a
    have hnd:=List.pairwise_iff_getElem.1 h.nodup
    rcases Nat.lt_or_gt_of_ne e with h4|h4
    ·exact hnd n m l1 l2 h4 (q1.trans (e2.symm.trans q2.symm))
    ·exact hnd m n l2 l1 h4 (q2.trans (e2.trans q1.symm))
   have hr:=h.rows m id' c' a b
   rw[hu.same id' hne (List.getElem?_eq_some_iff.1 hr).1]
   exact hr
theorem ClsOk.new {H Hb Hc:List MB} {ids:List Nat} {cls:List Spans} (h:ClsOk H ids cls) {x y:MB} {p:Int×Int} (hb:Hb=(H.set 1 x).set 2 y) (hu:Upd Hb Hc (Hb.length+1) (.row 2 ([p].map spanAV) 0)) :
  ClsOk (Hc.set 2 (.row 1 ((clsAV ids cls++[AV.sl true []]).set cls.length (.ms (Hb.length+1) 2 1 0 1)) 0)) (ids++[Hb.length+1]) (cls++[[p]]):=by
 have hbl:Hb.length=H.length:=by rw[hb];simp
 have h2:=(List.getElem?_eq_some_iff.1 h.out).1
 have hl:=hu.len
 have hids:∀ id∈ids,id < H.length:=fun id hid=>by
  obtain⟨n,hn⟩:=List.getElem?_of_mem hid
  have h3:=(List.getElem?_eq_some_iff.1 hn).1
  obtain⟨c,hc⟩:∃ c,cls[n]?=some c:=⟨_,List.getElem?_eq_getElem (by rw[← h.len];exact h3)⟩
  exact(List.getElem?_eq_some_iff.1 (h.rows n id c hn hc)).1
 refine⟨by simp[h.len],?_,fun m id c a b=>?_,?_,?_⟩
 ·rw[List.getElem?_set_self (by omega),clsAV_snoc h.len]
  congr 2
  rw[List.set_append_right _ _ (by rw[clsAV_len h.len];exact Nat.le_refl _),clsAV_len h.len]
  simp
 ·rcases Nat.lt_or_ge m ids.length with h3|h3
  ·rw[List.getElem?_append_left h3]at a
   rw[List.getElem?_append_left (by rw[← h.len];exact h3)]at b
   have hid:=h.high id (List.mem_of_getElem? a)
   have hr:=h.rows m id c a b
   have hlt:=hids id (List.mem_of_getElem? a)
   rw[List.getElem?_set_ne (by omega),hu.same id (by omega) (by omega),hb,List.getElem?_set_ne (by omega),List.getElem?_set_ne (by omega)]
   exact hr
  ·have hm:m=ids.length:=by
    have:=(List.getElem?_eq_some_iff.1 a).1
    simp at this;omega
   subst hm
   rw[List.getElem?_append_right (Nat.le_refl _),Nat.sub_self]at a
   rw[h.len,List.getElem?_append_right (Nat.le_refl _),Nat.sub_self]at b
   simp at a b
   rw[← a,← b,List.getElem?_set_ne (by omega)]
   exact hu.at_
 ·exact List.nodup_append.2 ⟨h.nodup,by simp,fun a ha b hb2 e=>by
   have:=hids a ha
   rw[List.mem_singleton.1 hb2]at e
   omega⟩
 ·intro id hid
  rcases List.mem_append.1 hid with h3|h3
  ·exact h.high id h3
  ·rw[List.mem_singleton.1 h3];omega
section rounds
variable {L:List Spans} {top:Int} {S:List (Int×Int)} {E:List Int} {k j:Nat} {w:List Int} {ws:List (List Int)} {ids:List Nat} {H:List MB}
theorem XI.old (h:XI L top S E k j w ws ids H) (hk:k < E.length) {n id:Nat} (hn:(firsts (colK L E top) k)[n]?=some (colK L E top k)) (hid:ids[n]?=some id) {H1:List MB}
  (hu:Upd H H1 id (.row 2 ((addI (clsOf (colK L E top) (pieceA E top) (colK L E top k) k) (pieceA E top k)).map spanAV) 0)) (h64:¬ 64 < (addI (clsOf (colK L E top) (pieceA E top) (colK L E top k) k) (pieceA E top k)).length) :
  XI L top S E (k+1) j w ws ids (H1.set 2 (.row 1 ((clsAV ids (classesA (colK L E top) (pieceA E top) k)).set n (.ms id 2 (addI (clsOf (colK L E top) (pieceA E top) (colK L E top k) k) (pieceA E top k)).length 0 (addI (clsOf (colK L E top) (pieceA E top) (colK L E top k) k) (pieceA E top k)).length)) 0)):=by
 obtain⟨e1,e2,e3⟩:=classes_old (pc:=pieceA E top) hn
 have hid3:=h.cls.high id (List.mem_of_getElem? hid)
 have h0:=(List.getElem?_eq_some_iff.1 h.b0).1
 have h1:=(List.getElem?_eq_some_iff.1 h.b1).1
 refine⟨hk,h.j_le,h.wr,?_,?_,by rw[e1];exact h.keys,by rw[e1];exact h.key,by rw[e2];exact h.cls.upd hid hu,?_⟩
 ·rw[List.getElem?_set_ne (by omega),hu.same 0 (by omega) h0];exact h.b0
 ·rw[List.getElem?_set_ne (by omega),hu.same 1 (by omega) h1];exact h.b1
 ·rintro(h2|⟨c,hc,h2⟩)
  ·rw[e1]at h2;exact h.few (.inl h2)
  ·rw[e1]at hc
   simp only[clsOf]at h2
   split at h2
   ·rename_i e;subst e;exact h64 h2
   ·exact h.few (.inr ⟨c,hc,h2⟩)
theorem XI.new (h:XI L top S E k j w ws ids H) (hk:k < E.length) (hn:colK L E top k ∉ firsts (colK L E top) k) (hWk:WR w fun s=>(colK L E top k).getD s false) {Hb Hc:List MB} {y:MB}
  (hb:Hb=(H.set 1 (.mp KK16 (ent 0 (ws++[w])))).set 2 y) (hu:Upd Hb Hc (Hb.length+1) (.row 2 ([pieceA E top k].map spanAV) 0)) (hm:¬ 1024 < (firsts (colK L E top) k).length+1) :
  XI L top S E (k+1) j w (ws++[w]) (ids++[Hb.length+1]) (Hc.set 2 (.row 1 ((clsAV ids (classesA (colK L E top) (pieceA E top) k)++[AV.sl true []]).set (firsts (colK L E top) k).length (.ms (Hb.length+1) 2 1 0 1)) 0)):=by
 obtain⟨e1,e2⟩:=classes_new (pc:=pieceA E top) hn
 have h0:=(List.getElem?_eq_some_iff.1 h.b0).1
 have h1:=(List.getElem?_eq_some_iff.1 h.b1).1
 have hbl:Hb.length=H.length:=by rw[hb];simp
 refine⟨hk,h.j_le,h.wr,?_,?_,by rw[e1];simp[h.keys],fun n c hc=>?_,?_,?_⟩
 ·rw[List.getElem?_set_ne (by omega),hu.same 0 (by omega) (by omega),hb,List.getElem?_set_ne (by omega),List.getElem?_set_ne (by omega)];exact h.b0
 ·rw[List.getElem?_set_ne (by omega),hu.same 1 (by omega) (by omega),hb,List.getElem?_set_ne (by omega),List.getElem?_set_self h1]
 ·rw[e1]at hc
  rcases Nat.lt_or_ge n (firsts (colK L E top) k).length with h3|h3
  ·rw[List.getElem?_append_left h3]at hc
   obtain⟨v,h4,h5⟩:=h.key n c hc
   exact⟨v,by rw[List.getElem?_append_left (by rw[h.keys];exact h3)];exact h4,h5⟩
  ·have hm:n=(firsts (colK L E top) k).length:=by
    have:=(List.getElem?_eq_some_iff.1 hc).1
    simp at this;omega
   subst hm
   rw[List.getElem?_append_right (Nat.le_refl _),Nat.sub_self]at hc
   simp at hc
   subst hc
   exact⟨w,by rw[← h.keys];simp,hWk⟩
 ·rw[e2]
  have:=h.cls.new hb hu
  rw[classes_len]at this
  exact this
 ·rintro(h2|⟨c,hc,h2⟩)
  ·rw[e1,List.length_append]at h2;exact hm h2
  ·simp only[clsOf]at h2
   split at h2
   ·rename_i e
    rw[← e,clsOf_nil hn,addI_nil]at h2
    simp at h2
   ·rename_i e
    rw[e1]at hc
    rcases List.mem_append.1 hc with h3|h3
    ·exact h.few (.inr ⟨c,h3,h2⟩)
    ·exact e (List.mem_singleton.1 h3).symm
theorem XI.find (h:XI L top S E k j w ws ids H) (hl:L.length≤1024) (hWk:WR w fun s=>(colK L E top k).getD s false) {n:Nat} (hn:(firsts (colK L E top) k)[n]?=some (colK L E top k)):findMp (wAV w) (ent 0 ws)=some (I n):=by
 obtain⟨v,h1,h2⟩:=h.key n _ hn
 have hv:v=w:=h2.uniq hWk fun j _=>rfl
 subst hv
 rw[find_ent h1,Nat.zero_add]
 intro m hm
 have hml:m < (firsts (colK L E top) k).length:=by rw[← h.keys];exact(List.getElem?_eq_some_iff.1 hm).1
 obtain⟨c,hc⟩:∃ c,(firsts (colK L E top) k)[m]?=some c:=⟨_,List.getElem?_eq_getElem hml⟩
 obtain⟨v',h3,h4⟩:=h.key m c hc
 rw[hm]at h3
 obtain rfl:=Option.some.inj h3
 have hce:c=colK L E top k:=col_eq (by rw[firsts_lenC (List.mem_of_getElem? hc),colK_len]) (by rw[firsts_lenC (List.mem_of_getElem? hc)];exact hl) fun s hs=>h4.inj hWk hs
 rw[hce]at hc
 obtain⟨l1,q1⟩:=List.getElem?_eq_some_iff.1 hc
 obtain⟨l2,q2⟩:=List.getElem?_eq_some_iff.1 hn
 have hnd:=List.pairwise_iff_getElem.1 (firsts_nodup (col:=colK L E top) k)
 rcases Nat.lt_trichotomy m n with h5|h5|h5
 ·exact absurd (q1.trans q2.symm) (hnd m n l1 l2 h5)
 ·exact h5
 ·exact absurd (q2.trans q1.symm) (hnd n m l2 l1 h5)
theorem XI.none (h:XI L top S E k j w ws ids H) (hl:L.length≤1024) (hWk:WR w fun s=>(colK L E top k).getD s false) (hn:colK L E top k ∉ firsts (colK L E top) k):w ∉ ws:=by
 intro hw
 obtain⟨m,hm⟩:=List.getElem?_of_mem hw
 have hml:m < (firsts (colK L E top) k).length:=by rw[← h.keys];exact(List.getElem?_eq_some_iff.1 hm).1
 obtain⟨c,hc⟩:∃ c,(firsts (colK L E top) k)[m]?=some c:=⟨_,List.getElem?_eq_getElem hml⟩
 obtain⟨v',h3,h4⟩:=h.key m c hc
 rw[hm]at h3
 obtain rfl:=Option.some.inj h3
 have hce:c=colK L E top k:=col_eq (by rw[firsts_lenC (List.mem_of_getElem? hc),colK_len]) (by rw[firsts_lenC (List.mem_of_getElem? hc)];exact hl) fun s hs=>h4.inj hWk hs
 exact hn (by rw[← hce];exact List.mem_of_getElem? hc)
end rounds
theorem cls_in {E:List Int} {top:Int} (he:EndsOk top E) (col:Nat→List Bool) (c:List Bool):∀ {n:Nat},n≤E.length→∀ q∈clsOf col (pieceA E top) c n,0≤q.2∧q.2≤top
 | 0,_,q,h=>by simp[clsOf]at h
 | n+1,hn,q,h=>by
   have ih:=cls_in he col c (n:=n) (by omega)
   have st:=he.step (k:=n) (by omega)
   simp only[clsOf]at h
   split at h
   ·have hp:0≤(pieceA E top n).2∧(pieceA E top n).2≤top:=by simp only[pieceA];omega
    rcases List.eq_nil_or_concat (clsOf col (pieceA E top) c n) with e|⟨O,r,e⟩
    ·rw[e,addI_nil]at h
     rw[List.mem_singleton.1 h];exact hp
    ·rw[List.concat_eq_append]at e
     rw[e]at ih h
     rw[addI_snoc]at h
     split at h
     ·rcases List.mem_append.1 h with h|h
      ·exact ih q (by simp[h])
      ·rw[List.mem_singleton.1 h]
       have:=ih r (by simp)
       simp only;omega
     ·rcases List.mem_append.1 h with h|h
      ·exact ih q h
      ·rw[List.mem_singleton.1 h];exact hp
   ·exact ih q h
theorem sf34 (L:List Spans) (top:Int) (h0:0≤top) (htp:top≤1114111) (hs:∀ s∈L,SetV s) (hv:∀ s∈L,refSpans s=0) (hl:L.length≤8192) (hsl:∀ s∈L,s.length≤64) (H:List MB) :
  call Tryz.prog pol1 34 [.sl false (L.map setAV),I top] H=some (if 1024 < L.length then splitR none else splitR (splitA L (endsR L top) top),H):=by
 have hpl:=plain_sets L
 have h67:=sf67 L top h0 htp hs hl hsl
 have h66:∀ s∈L,∀ H,call Tryz.prog pol1 66 [setAV s] H=some (I 0,H):=fun s hm H=>by
  rw[f121 s (by have:=hsl s hm;omega) H,hv s hm]
 refine call_run Tryz.func34 rfl rfl rfl rfl rfl rfl (fun _=>rfl) (by simp[AV.plain,AV.plainL,hpl]) (by
  split
  ·rfl
  ·cases splitA L (endsR L top) top with
   | none=>rfl
   | some c=>simp[splitR,AV.plain,AV.plainL,plain_sets]) ?_ H
 simp +contextual (disch:=omega) only[Tryz.f34,dd34,go_sem,simprocAttr,evAppend,evBin,AV.cells,mu34,↓wrap_up,↓wrap_down,↓wrap_pred,↓wrap_sub_nat]
 refine W_count (M:=(mskOf (pol1.mask 34) (pol1.gc 34) (pol1.acts 34) 0 2)) rfl L.length (fun i=>(⟨123,[(19,I i),(18,I L.length),(17,.sl false (L.map setAV)),(1,I top),(0,.sl false (L.map setAV))],[]⟩:St)) (fun i=>True) ?_ ?_ trivial _ (by first|rfl|(refine prep_cut rfl (by rfl) (by rfl) (by rfl) ?_ ?_<;>simp[AV.underL,AV.under,MB.under,underL_plain,under_plain,plain_ints,plain_span,plain_ins,plain_prg,-List.map_take,plain_sets]))
 ·intro i hi _
  obtain⟨s,hsi⟩:∃ s,L[i]?=some s:=⟨_,List.getElem?_eq_getElem hi⟩
  have hsi':(L.map setAV)[i]?=some (setAV s):=by simp[hsi]
  have h:=h66 s (List.mem_of_getElem? hsi)
  simp +contextual (disch:=omega) only[Tryz.f34,dd34,go_sem,simprocAttr,evAppend,evBin,AV.cells,mu34,↓wrap_up,↓wrap_down,↓wrap_pred,↓wrap_sub_nat,hsi',h]
  exact(by first|rfl|(refine prep_cut rfl (by rfl) (by rfl) (by rfl) ?_ ?_<;>simp[AV.underL,AV.under,MB.under,underL_plain,under_plain,plain_ints,plain_span,plain_ins,plain_prg,-List.map_take,plain_sets]))
 ·intro _
  by_cases hbig:1024 < L.length
  ·rw[if_pos hbig]
   simp +contextual (disch:=omega) only[Tryz.f34,dd34,go_sem,simprocAttr,evAppend,evBin,AV.cells,mu34,↓wrap_up,↓wrap_down,↓wrap_pred,↓wrap_sub_nat]
   exact⟨_,rfl⟩
  ·rw[if_neg hbig]
   have hE:=endsR_ok h0 hs
   have hmem:=fun x=>endsR_mem (top:=top) h0 hs (x:=x)
   have hsm:=ends_small htp hs
   have hsc:ScanOk L top (sortE (endsP top 0 L)) (endsR L top):=⟨hs,h0,by omega,sortE_perm hsm,sortE_sorted _,hE,hmem⟩
   have hSl:=sortE_length hsm
   have hPl:=endsP_len (top:=top) (L:=L) (i:=0) hsl
   have hEl:=endsR_len h0 hs hsl
   generalize endsR L top=E at *
   generalize sortE (endsP top 0 L)=S at *
   have hpe:=plain_el2 S
   have hrow0:List.replicate 16 (0:Int)=[0,0,0,0,0,0,0,0,0,0,0,0,0,0,0,0]:=rfl
   simp +contextual (disch:=omega) only[Tryz.f34,dd34,go_sem,simprocAttr,evAppend,evBin,AV.cells,mu34,↓wrap_up,↓wrap_down,↓wrap_pred,↓wrap_sub_nat,h67]
   refine W_for (σ:=XS) (M:=(mskOf (pol1.mask 34) (pol1.gc 34) (pol1.acts 34) 0 17)) rfl (fun x=>(⟨123,[(13,I (lastP E top x.k)),(12,.ms 2 1 (firsts (colK L E top) x.k).length 0 (firsts (colK L E top) x.k).length),(11,.mpr 1),(10,.rf 0 1 0 0),(9,.sl false ((S.drop x.j).map el2)),(1,I top)],x.H⟩:St))
    (fun x=>XI L top S E x.k x.j x.w x.ws x.ids x.H∧From S x.j (lastP E top x.k)) (fun x=>E.length - x.k)
    ⟨0,0,List.replicate 16 0,[],[],[.row 16 [wAV (List.replicate 16 0)] 0,.mp KK16 [],.row 1 [] 0]⟩ ?_ ⟨⟨Nat.zero_le _,Nat.zero_le _,WR.zero,rfl,rfl,rfl,fun n c h=>by simp[firsts]at h,⟨rfl,rfl,fun n id c h=>by simp at h,.nil,fun id h=>by simp at h⟩,by rintro(h|⟨c,h,_⟩)<;>simp[firsts]at h⟩,by rw[show lastP E top 0=0 from lastP_of hE.first];exact From.zero hsc⟩ _ ?_
   ·rintro⟨k,j,w,ws,ids,H⟩ ⟨hi,hfr⟩
    simp only at hi hfr ⊢
    by_cases hk:k < E.length
    ·have hst:=hE.step hk
     simp +contextual (disch:=omega) only[Tryz.f34,dd34,go_sem,simprocAttr,evAppend,evBin,AV.cells,mu34,↓wrap_up,↓wrap_down,↓wrap_pred,↓wrap_sub_nat]
     refine W_for (σ:=XS) (M:=(mskOf (pol1.mask 34) (pol1.gc 34) (pol1.acts 34) 0 18)) rfl (fun x=>(⟨123,[(13,I (lastP E top k)),(12,.ms 2 1 (firsts (colK L E top) k).length 0 (firsts (colK L E top) k).length),(11,.mpr 1),(10,.rf 0 1 0 0),(9,.sl false ((S.drop x.j).map el2)),(1,I top)],x.H⟩:St))
      (fun x=>XI L top S E k x.j x.w ws ids x.H∧Mid S x.j (lastP E top k)) (fun x=>S.length - x.j)
      ⟨k,j,w,ws,ids,H⟩ ?_ ⟨hi,hfr.mid⟩ _ (by first|rfl|(refine prep_cut rfl (by rfl) (by rfl) (by rfl) ?_ ?_<;>simp[AV.underL,AV.under,MB.under,underL_plain,under_plain,plain_ints,plain_span,plain_ins,plain_prg,-List.map_take,plain_sets]))
     rintro⟨_,j,w,_,_,H⟩ ⟨hi,hmid⟩
     simp only at hi hmid ⊢
     by_cases hend:∃ e,S[j]?=some e∧e.1=lastP E top k
     ·obtain⟨e,he,hat⟩:=hend
      have hjl:=(List.getElem?_eq_some_iff.1 he).1
      obtain⟨⟨s,hes,hsl1⟩,_⟩:=hsc.at he
      have hdl:(S.drop j).map el2=.agg [I (lastP E top k),I s]::(S.drop (j+1)).map el2:=by
       rw[List.drop_eq_getElem_cons hjl,(List.getElem?_eq_some_iff.1 he).2,List.map_cons]
       simp only[el2,hat,hes]
      obtain⟨x,hx1,hx2,_⟩:=hi.wr.2 (s / 64) (by omega)
      have hx':(w.map U)[s / 64]?=some (U x):=by simp[hx1]
      have hw16:=hi.wr.1
      have hb0:=hi.b0
      have q1:=evBin_quo64 s (by omega)
      have q2:=evBin_rem64 s
      have q3:=shl_u64 (s % 64) (by omega)
      have q4:=evBin_xor' x (2 ^ (s % 64)) (s % 64) rfl
      rw[hdl]
      simp +contextual (disch:=omega) only[Tryz.f34,dd34,go_sem,simprocAttr,evAppend,AV.cells,mu34,↓wrap_up,↓wrap_down,↓wrap_pred,↓wrap_sub_nat,evBin_gtrS,evBin_eqlS,q1,q2,q3,q4,hb0,hx']
      rw[splice_U (by omega)]
      refine⟨by unfold dOk;kernel_rfl,by kernel_rfl,List.all_eq_true.2 fun y hy=>?_,⟨k,j+1,w.set (s / 64) (xorW x (s % 64)),ws,ids,H.set 0 (.row 16 [wAV (w.set (s / 64) (xorW x (s % 64)))] 0)⟩,⟨hi.tog he hes (by omega) hx1,hmid.step he hat⟩,by show S.length - (j+1) < S.length - j;omega,?_⟩
      ·obtain⟨z,_,rfl⟩:=List.mem_map.1 hy
       rfl
      ·rw[List.take_of_length_le (by simp)]
       rfl
     ·have hpast:=hmid.past hsc.sorted fun e he h=>hend ⟨e,he,h⟩
      obtain⟨hnx,hfr2⟩:=Past.next hsc hk hpast
      have hpar:=fun s=>Past.par hsc (show lastP E top k≤top by omega) hpast s
      have hWk:WR w fun s=>(colK L E top k).getD s false:=hi.wr.congr fun s _=>hpar s
      have hb0:=hi.b0
      have hb1:H[1]?=some (.mp (.flat 132 [some .u64,some .u64,some .u64,some .u64,some .u64,some .u64,some .u64,some .u64,some .u64,some .u64,some .u64,some .u64,some .u64,some .u64,some .u64,some .u64]) (ent 0 ws)):=hi.b1
      have hout:=hi.cls.out
      have hw16:=hi.wr.1
      have hko:=cells16 hw16
      have htk:List.take 16 (w.map U)=w.map U:=List.take_of_length_le (by simp[hw16])
      have hcellW:(wAV w).cells=w.map U:=rfl
      have hcellM:∀ a b c d e,(AV.ms a b c d e).cells=[.ms a b c d e]:=fun _ _ _ _ _=>rfl
      have hcellE:∀ a b:Int,(AV.agg [I a,I b]).cells=[I a,I b]:=fun _ _=>rfl
      have hcellI:∀ k n,(AV.int k n).cells=[.int k n]:=fun _ _=>rfl
      have hfw:(firsts (colK L E top) k).length≤1024:=by
       have:=hi.few
       exact Nat.le_of_not_lt fun h=>this (.inl h)
      cases hSj:S[j]? with
      | none=>
        have hd:S.drop j=[]:=List.drop_eq_nil_of_le (List.getElem?_eq_none_iff.1 hSj)
        rw[hSj]at hnx
        simp only at hnx
        rw[hd]
        obtain⟨la,hla⟩:∃ la,la=top:=⟨_,rfl⟩
        have hpcx:pieceA E top k=(lastP E top k,top):=by simp only[pieceA,hnx];congr 1;omega
        have hat2:IntKind.i64.wrap (top+1)=lastP E top (k+1):=by rw[i64_in]<;>omega
        by_cases hold:colK L E top k∈firsts (colK L E top) k
        ·obtain⟨n,hn⟩:=List.getElem?_of_mem hold
         have hnl:=(List.getElem?_eq_some_iff.1 hn).1
         obtain⟨e1,e2,e3⟩:=classes_old (pc:=pieceA E top) hn
         have hf:=hi.find (by omega) hWk hn
         obtain⟨id,hid⟩:∃ id,ids[n]?=some id:=⟨_,List.getElem?_eq_getElem (by rw[hi.cls.len,classes_len];exact hnl)⟩
         have hrow:=hi.cls.rows n id _ hid e3
         have hCl:(clsAV ids (classesA (colK L E top) (pieceA E top) k)).length=(firsts (colK L E top) k).length:=by rw[clsAV_len hi.cls.len,classes_len]
         have hCn:=clsAV_at hid e3
         have hcpos:=clsOf_pos (pc:=pieceA E top) hold
         have hc64:¬ 64 < (clsOf (colK L E top) (pieceA E top) (colK L E top k) k).length:=fun h=>hi.few (.inr ⟨_,hold,h⟩)
         have hin:=cls_in hE (colK L E top) (colK L E top k) (n:=k) (by omega)
         obtain⟨H1,h68,hu⟩:=sf68u (p:=pieceA E top k) hrow rfl hcpos (by omega) (fun q hq=>by have:=(hin q hq).2;omega) (by rw[hpcx];exact⟨by simp only;omega,by simp only;omega,by simp only;omega⟩) (fun q hq=>(hin q hq).1)
         have hnew:=fun h64=>hi.old hk hn hid hu h64
         have hbadk:=fun h64:64 < (addI (clsOf (colK L E top) (pieceA E top) (colK L E top k) k) (pieceA E top k)).length=>splitA_bad (L:=L) (E:=E) (top:=top) (n:=k+1) (by omega) (.inr ⟨colK L E top k,by rw[e1];exact hold,by simp only[clsOf,if_true];exact h64⟩)
         have hid3:=hi.cls.high id (List.mem_of_getElem? hid)
         have h2l:=(List.getElem?_eq_some_iff.1 hout).1
         have hout1:H1[2]?=some (.row 1 (clsAV ids (classesA (colK L E top) (pieceA E top) k)) 0):=by rw[hu.same 2 (by omega) h2l];exact hout
         have hset:=fun y:MB=>List.getElem?_set_self (a:=y) (show 2 < H1.length by have:=hu.len;omega)
         rw[hpcx]at h68
         simp only at h68
         rw[← hpcx]at h68
         generalize (addI (clsOf (colK L E top) (pieceA E top) (colK L E top k) k) (pieceA E top k)).length=m at *
         generalize (clsOf (colK L E top) (pieceA E top) (colK L E top k) k).length=c at *
         have hCs:∀ v:AV,((clsAV ids (classesA (colK L E top) (pieceA E top) k)).set n v)[n]?=some v:=fun v=>List.getElem?_set_self (by rw[hCl];exact hnl)
         generalize clsAV ids (classesA (colK L E top) (pieceA E top) k)=C at *
         by_cases h64:64 < m
         ·rw[hbadk h64]
          simp +contextual (disch:=omega) only[Tryz.f34,dd34,go_sem,simprocAttr,evAppend,mu34,↓wrap_up,↓wrap_down,↓wrap_pred,↓wrap_sub_nat,hd,evBin_gtrS,evBin_eqlS,evBin_addS,evBin_subS,hb0,hb1,htk,hw16,hko,hf,hout,hCl,hCn,h68,hout1,hset,hCs,List.length_set,hcellW,hcellM,hcellI,hcellE,hfw]
          exact⟨_,rfl⟩
         ·simp +contextual (disch:=omega) only[Tryz.f34,dd34,go_sem,simprocAttr,evAppend,mu34,↓wrap_up,↓wrap_down,↓wrap_pred,↓wrap_sub_nat,hd,evBin_gtrS,evBin_eqlS,evBin_addS,evBin_subS,hb0,hb1,htk,hw16,hko,hf,hout,hCl,hCn,h68,hout1,hset,hCs,List.length_set,hcellW,hcellM,hcellI,hcellE,hat2,hfw]
          refine⟨⟨k+1,j,w,ws,ids,_⟩,⟨hnew h64,hfr2⟩,by show E.length - (k+1) < E.length - k;omega,?_⟩
          simp only[e1]
          rw[hd]
          rfl
        ·have e1:=(classes_new (pc:=pieceA E top) hold).1
         have hN1:(firsts (colK L E top) (k+1)).length=(firsts (colK L E top) k).length+1:=by rw[e1];simp
         have hww:=hi.none (by omega) hWk hold
         have hf:=find_none (i:=0) hww
         have hup:=upd_ent (i:=0) hww
         rw[Nat.zero_add,hi.keys]at hup
         have hCl:(clsAV ids (classesA (colK L E top) (pieceA E top) k)).length=(firsts (colK L E top) k).length:=by rw[clsAV_len hi.cls.len,classes_len]
         have h2l:=(List.getElem?_eq_some_iff.1 hout).1
         have hg2:getRow (H.set 1 (.mp KK16 (ent 0 (ws++[w])))) 2=some (1,clsAV ids (classesA (colK L E top) (pieceA E top) k),0):=by
          unfold getRow;rw[List.getElem?_set_ne (by omega),hout]
         obtain⟨Hb,hHb⟩:∃ Hb,Hb=(H.set 1 (.mp KK16 (ent 0 (ws++[w])))).set 2 (.row 1 (clsAV ids (classesA (colK L E top) (pieceA E top) k)++[AV.sl true []]) 0):=⟨_,rfl⟩
         have ha:∀ t,evAppend Tryz.prog (H.set 1 (.mp (.flat 132 [some .u64,some .u64,some .u64,some .u64,some .u64,some .u64,some .u64,some .u64,some .u64,some .u64,some .u64,some .u64,some .u64,some .u64,some .u64,some .u64]) (ent 0 (ws++[w])))) 90 90 (.ms 2 1 (firsts (colK L E top) k).length 0 (firsts (colK L E top) k).length) (.sl t [.sl true []])=some (.ms 2 1 ((firsts (colK L E top) k).length+1) 0 ((firsts (colK L E top) k).length+1),Hb):=fun t=>by
          have hs:srcElems Tryz.prog (H.set 1 (.mp KK16 (ent 0 (ws++[w])))) 23 (.sl t [.sl true []])=some [.sl true []]:=rfl
          have:=evAppend_end (sT:=90) (xT:=90) (e:=23) (by kernel_rfl) (by kernel_rfl) (k:=1) (by kernel_rfl) (by_:=24) (by kernel_rfl) (ze:=.sl true []) (by kernel_rfl) rfl (by omega) hs (by simp[AV.cells,AV.ok]) hg2 hCl (Nat.zero_le _) (room_ok (by simp;omega) (by omega))
          rw[hHb]
          exact this
         have hb2:Hb[2]?=some (.row 1 (clsAV ids (classesA (colK L E top) (pieceA E top) k)++[AV.sl true []]) 0):=by rw[hHb];exact List.getElem?_set_self (by simpa using h2l)
         obtain⟨Hc,h68,hu⟩:=sf68nu Hb (pieceA E top k)
         have hbl:Hb.length=H.length:=by rw[hHb];simp
         have hc2:Hc[2]?=some (.row 1 (clsAV ids (classesA (colK L E top) (pieceA E top) k)++[AV.sl true []]) 0):=by rw[hu.same 2 (by omega) (by omega)];exact hb2
         have hset:=fun y:MB=>List.getElem?_set_self (a:=y) (show 2 < Hc.length by have:=hu.len;omega)
         have hnew:=fun hm=>hi.new hk hold hWk hHb hu hm
         have hbadk:=fun hm:1024 < (firsts (colK L E top) k).length+1=>splitA_bad (L:=L) (E:=E) (top:=top) (n:=k+1) (by omega) (.inl (by rw[e1,List.length_append];exact hm))
         rw[hpcx]at h68
         simp only at h68
         generalize (firsts (colK L E top) k).length=N at *
         generalize hCC:clsAV ids (classesA (colK L E top) (pieceA E top) k)=C at *
         have hCn:(C++[AV.sl true []])[N]?=some (AV.sl true []):=by rw[← hCl];simp
         have hCl2:(C++[AV.sl true []]).length=N+1:=by simp[hCl]
         have hCs:∀ v:AV,((C++[AV.sl true []]).set N v)[N]?=some v:=fun v=>List.getElem?_set_self (by rw[hCl2];omega)
         have hCsl:∀ v:AV,((C++[AV.sl true []]).set N v).length=N+1:=fun v=>by rw[List.length_set];exact hCl2
         generalize C++[AV.sl true []]=C2 at *
         have hcellN:(AV.sl true []).cells=[.sl true []]:=rfl
         by_cases hm:1024 < N+1
         ·rw[hbadk hm]
          simp +contextual (disch:=omega) only[Tryz.f34,dd34,go_sem,simprocAttr,mu34,↓wrap_up,↓wrap_down,↓wrap_pred,↓wrap_sub_nat,hd,evBin_gtrS,evBin_eqlS,evBin_addS,evBin_subS,hb0,hb1,htk,hw16,hko,hf,hup,hout,ha,hb2,hc2,hCn,hCl2,hCs,hCsl,h68,hset,List.length_set,hcellW,hcellM,hcellI,hcellE,hcellN]
          exact⟨_,rfl⟩
         ·simp +contextual (disch:=omega) only[Tryz.f34,dd34,go_sem,simprocAttr,mu34,↓wrap_up,↓wrap_down,↓wrap_pred,↓wrap_sub_nat,hd,evBin_gtrS,evBin_eqlS,evBin_addS,evBin_subS,hb0,hb1,htk,hw16,hko,hf,hup,hout,ha,hb2,hc2,hCn,hCl2,hCs,hCsl,h68,hset,List.length_set,hcellW,hcellM,hcellI,hcellE,hcellN,hat2]
          refine⟨⟨k+1,j,w,ws++[w],ids++[Hb.length+1],_⟩,⟨hnew hm,hfr2⟩,by show E.length - (k+1) < E.length - k;omega,?_⟩
          simp only[hN1]
          rw[hd]
          rfl
      | some e=>
        have hjl:=(List.getElem?_eq_some_iff.1 hSj).1
        have hdl:(S.drop j).map el2=.agg [I e.1,I e.2]::(S.drop (j+1)).map el2:=by
         rw[List.drop_eq_getElem_cons hjl,(List.getElem?_eq_some_iff.1 hSj).2,List.map_cons]
         rfl
        have hne:e.1≠lastP E top k:=fun h=>hend ⟨e,hSj,h⟩
        have hea:=(hsc.at hSj).2.2
        have heg:=hpast.2 j e (Nat.le_refl _) hSj
        have hwl:IntKind.i64.wrap (e.1 - 1)=e.1 - 1:=by rw[i64_in];omega
        rw[hSj]at hnx
        simp only at hnx
        rw[hdl]
        obtain⟨la,hla⟩:∃ la,la=(e.1 - 1):=⟨_,rfl⟩
        have hpcx:pieceA E top k=(lastP E top k,(e.1 - 1)):=by simp only[pieceA,hnx]
        have hat2:IntKind.i64.wrap ((e.1 - 1)+1)=lastP E top (k+1):=by rw[i64_in]<;>omega
        by_cases hold:colK L E top k∈firsts (colK L E top) k
        ·obtain⟨n,hn⟩:=List.getElem?_of_mem hold
         have hnl:=(List.getElem?_eq_some_iff.1 hn).1
         obtain⟨e1,e2,e3⟩:=classes_old (pc:=pieceA E top) hn
         have hf:=hi.find (by omega) hWk hn
         obtain⟨id,hid⟩:∃ id,ids[n]?=some id:=⟨_,List.getElem?_eq_getElem (by rw[hi.cls.len,classes_len];exact hnl)⟩
         have hrow:=hi.cls.rows n id _ hid e3
         have hCl:(clsAV ids (classesA (colK L E top) (pieceA E top) k)).length=(firsts (colK L E top) k).length:=by rw[clsAV_len hi.cls.len,classes_len]
         have hCn:=clsAV_at hid e3
         have hcpos:=clsOf_pos (pc:=pieceA E top) hold
         have hc64:¬ 64 < (clsOf (colK L E top) (pieceA E top) (colK L E top k) k).length:=fun h=>hi.few (.inr ⟨_,hold,h⟩)
         have hin:=cls_in hE (colK L E top) (colK L E top k) (n:=k) (by omega)
         obtain⟨H1,h68,hu⟩:=sf68u (p:=pieceA E top k) hrow rfl hcpos (by omega) (fun q hq=>by have:=(hin q hq).2;omega) (by rw[hpcx];exact⟨by simp only;omega,by simp only;omega,by simp only;omega⟩) (fun q hq=>(hin q hq).1)
         have hnew:=fun h64=>hi.old hk hn hid hu h64
         have hbadk:=fun h64:64 < (addI (clsOf (colK L E top) (pieceA E top) (colK L E top k) k) (pieceA E top k)).length=>splitA_bad (L:=L) (E:=E) (top:=top) (n:=k+1) (by omega) (.inr ⟨colK L E top k,by rw[e1];exact hold,by simp only[clsOf,if_true];exact h64⟩)
         have hid3:=hi.cls.high id (List.mem_of_getElem? hid)
         have h2l:=(List.getElem?_eq_some_iff.1 hout).1
         have hout1:H1[2]?=some (.row 1 (clsAV ids (classesA (colK L E top) (pieceA E top) k)) 0):=by rw[hu.same 2 (by omega) h2l];exact hout
         have hset:=fun y:MB=>List.getElem?_set_self (a:=y) (show 2 < H1.length by have:=hu.len;omega)
         rw[hpcx]at h68
         simp only at h68
         rw[← hpcx]at h68
         generalize (addI (clsOf (colK L E top) (pieceA E top) (colK L E top k) k) (pieceA E top k)).length=m at *
         generalize (clsOf (colK L E top) (pieceA E top) (colK L E top k) k).length=c at *
         have hCs:∀ v:AV,((clsAV ids (classesA (colK L E top) (pieceA E top) k)).set n v)[n]?=some v:=fun v=>List.getElem?_set_self (by rw[hCl];exact hnl)
         generalize clsAV ids (classesA (colK L E top) (pieceA E top) k)=C at *
         by_cases h64:64 < m
         ·rw[hbadk h64]
          simp +contextual (disch:=omega) only[Tryz.f34,dd34,go_sem,simprocAttr,evAppend,mu34,↓wrap_up,↓wrap_down,↓wrap_pred,↓wrap_sub_nat,hwl,evBin_gtrS,evBin_eqlS,evBin_addS,evBin_subS,hb0,hb1,htk,hw16,hko,hf,hout,hCl,hCn,h68,hout1,hset,hCs,List.length_set,hcellW,hcellM,hcellI,hcellE,hfw]
          exact⟨_,rfl⟩
         ·simp +contextual (disch:=omega) only[Tryz.f34,dd34,go_sem,simprocAttr,evAppend,mu34,↓wrap_up,↓wrap_down,↓wrap_pred,↓wrap_sub_nat,hwl,evBin_gtrS,evBin_eqlS,evBin_addS,evBin_subS,hb0,hb1,htk,hw16,hko,hf,hout,hCl,hCn,h68,hout1,hset,hCs,List.length_set,hcellW,hcellM,hcellI,hcellE,hat2,hfw]
          refine⟨⟨k+1,j,w,ws,ids,_⟩,⟨hnew h64,hfr2⟩,by show E.length - (k+1) < E.length - k;omega,?_⟩
          simp only[e1]
          rw[hdl]
          rfl
        ·have e1:=(classes_new (pc:=pieceA E top) hold).1
         have hN1:(firsts (colK L E top) (k+1)).length=(firsts (colK L E top) k).length+1:=by rw[e1];simp
         have hww:=hi.none (by omega) hWk hold
         have hf:=find_none (i:=0) hww
         have hup:=upd_ent (i:=0) hww
         rw[Nat.zero_add,hi.keys]at hup
         have hCl:(clsAV ids (classesA (colK L E top) (pieceA E top) k)).length=(firsts (colK L E top) k).length:=by rw[clsAV_len hi.cls.len,classes_len]
         have h2l:=(List.getElem?_eq_some_iff.1 hout).1
         have hg2:getRow (H.set 1 (.mp KK16 (ent 0 (ws++[w])))) 2=some (1,clsAV ids (classesA (colK L E top) (pieceA E top) k),0):=by
          unfold getRow;rw[List.getElem?_set_ne (by omega),hout]
         obtain⟨Hb,hHb⟩:∃ Hb,Hb=(H.set 1 (.mp KK16 (ent 0 (ws++[w])))).set 2 (.row 1 (clsAV ids (classesA (colK L E top) (pieceA E top) k)++[AV.sl true []]) 0):=⟨_,rfl⟩
         have ha:∀ t,evAppend Tryz.prog (H.set 1 (.mp (.flat 132 [some .u64,some .u64,some .u64,some .u64,some .u64,some .u64,some .u64,some .u64,some .u64,some .u64,some .u64,some .u64,some .u64,some .u64,some .u64,some .u64]) (ent 0 (ws++[w])))) 90 90 (.ms 2 1 (firsts (colK L E top) k).length 0 (firsts (colK L E top) k).length) (.sl t [.sl true []])=some (.ms 2 1 ((firsts (colK L E top) k).length+1) 0 ((firsts (colK L E top) k).length+1),Hb):=fun t=>by
          have hs:srcElems Tryz.prog (H.set 1 (.mp KK16 (ent 0 (ws++[w])))) 23 (.sl t [.sl true []])=some [.sl true []]:=rfl
          have:=evAppend_end (sT:=90) (xT:=90) (e:=23) (by kernel_rfl) (by kernel_rfl) (k:=1) (by kernel_rfl) (by_:=24) (by kernel_rfl) (ze:=.sl true []) (by kernel_rfl) rfl (by omega) hs (by simp[AV.cells,AV.ok]) hg2 hCl (Nat.zero_le _) (room_ok (by simp;omega) (by omega))
          rw[hHb]
          exact this
         have hb2:Hb[2]?=some (.row 1 (clsAV ids (classesA (colK L E top) (pieceA E top) k)++[AV.sl true []]) 0):=by rw[hHb];exact List.getElem?_set_self (by simpa using h2l)
         obtain⟨Hc,h68,hu⟩:=sf68nu Hb (pieceA E top k)
         have hbl:Hb.length=H.length:=by rw[hHb];simp
         have hc2:Hc[2]?=some (.row 1 (clsAV ids (classesA (colK L E top) (pieceA E top) k)++[AV.sl true []]) 0):=by rw[hu.same 2 (by omega) (by omega)];exact hb2
         have hset:=fun y:MB=>List.getElem?_set_self (a:=y) (show 2 < Hc.length by have:=hu.len;omega)
         have hnew:=fun hm=>hi.new hk hold hWk hHb hu hm
         have hbadk:=fun hm:1024 < (firsts (colK L E top) k).length+1=>splitA_bad (L:=L) (E:=E) (top:=top) (n:=k+1) (by omega) (.inl (by rw[e1,List.length_append];exact hm))
         rw[hpcx]at h68
         simp only at h68
         generalize (firsts (colK L E top) k).length=N at *
         generalize hCC:clsAV ids (classesA (colK L E top) (pieceA E top) k)=C at *
         have hCn:(C++[AV.sl true []])[N]?=some (AV.sl true []):=by rw[← hCl];simp
         have hCl2:(C++[AV.sl true []]).length=N+1:=by simp[hCl]
         have hCs:∀ v:AV,((C++[AV.sl true []]).set N v)[N]?=some v:=fun v=>List.getElem?_set_self (by rw[hCl2];omega)
         have hCsl:∀ v:AV,((C++[AV.sl true []]).set N v).length=N+1:=fun v=>by rw[List.length_set];exact hCl2
         generalize C++[AV.sl true []]=C2 at *
         have hcellN:(AV.sl true []).cells=[.sl true []]:=rfl
         by_cases hm:1024 < N+1
         ·rw[hbadk hm]
          simp +contextual (disch:=omega) only[Tryz.f34,dd34,go_sem,simprocAttr,mu34,↓wrap_up,↓wrap_down,↓wrap_pred,↓wrap_sub_nat,hwl,evBin_gtrS,evBin_eqlS,evBin_addS,evBin_subS,hb0,hb1,htk,hw16,hko,hf,hup,hout,ha,hb2,hc2,hCn,hCl2,hCs,hCsl,h68,hset,List.length_set,hcellW,hcellM,hcellI,hcellE,hcellN]
          exact⟨_,rfl⟩
         ·simp +contextual (disch:=omega) only[Tryz.f34,dd34,go_sem,simprocAttr,mu34,↓wrap_up,↓wrap_down,↓wrap_pred,↓wrap_sub_nat,hwl,evBin_gtrS,evBin_eqlS,evBin_addS,evBin_subS,hb0,hb1,htk,hw16,hko,hf,hup,hout,ha,hb2,hc2,hCn,hCl2,hCs,hCsl,h68,hset,List.length_set,hcellW,hcellM,hcellI,hcellE,hcellN,hat2]
          refine⟨⟨k+1,j,w,ws++[w],ids++[Hb.length+1],_⟩,⟨hnew hm,hfr2⟩,by show E.length - (k+1) < E.length - k;omega,?_⟩
          simp only[hN1]
          rw[hdl]
          rfl
    ·have hke:k=E.length:=by have:=hi.k_le;omega
     have hle:lastP E top k=top+1:=lastP_end (by omega)
     have hok:splitA L E top=some (classesA (colK L E top) (pieceA E top) k):=by
      rw[hke];exact splitA_ok (by rw[← hke];exact hi.few)
     have hcl:=classes_len (col:=colK L E top) (pc:=pieceA E top) k
     obtain⟨H',hfin⟩:=hi.cls.fz hcl
     rw[hok,hle]
     simp +contextual (disch:=omega) only[Tryz.f34,dd34,go_sem,simprocAttr,evAppend,evBin,AV.cells,mu34,↓wrap_up,↓wrap_down,↓wrap_pred,↓wrap_sub_nat]
     exact⟨H',hfin⟩
   ·simp only[lastP_of hE.first,List.drop_zero,firsts,List.length_nil]
    rfl
end
end Go.Ev
