/- Functions of the program, each with what it computes; no further conditions. -/
import Derived.Test.YtjgmfjneajcbmaaGreatC06
import Derived.Test.YtjgmfjneajcbmaaGreatC15
import Derived.Test.YtjgmfjneajcbmaaGreatC14
import Derived.Test.YtjgmfjneajcbmaaGreatC13
import Derived.Test.YtjgmfjneajcbmaaGreatC12
set_option linter.unusedVariables false
set_option linter.unusedSimpArgs false
namespace Go.Ev
attribute [local go_sem] evBin AV.cells frzB tySzE List.head?_drop Nat.mul_one sameAt_zero sameAt_two sameAt_three sameAt_four sameAt_five room_ok
section
attribute [local go_sem] List.length_append List.map_append
open Go.Proofs Go.RowKit Go.IntWalk
set_option maxRecDepth 100000
set_option maxHeartbeats 4000000
def meetL (L:List (List Nat)) (s:List Nat):List (List Nat):=if s=[]∨s∈L then L else L++[s]
def rowL (ins:List Ins) (l:List Nat) (reps:List Int) (L:List (List Nat)):List (List Nat):=reps.foldl (fun L x=>meetL L (nextL ins l x)) L
theorem meetL_len (L:List (List Nat)) (s:List Nat):L.length≤(meetL L s).length∧(meetL L s).length≤L.length+1:=by
 unfold meetL;split<;>simp
theorem meetL_pre (L:List (List Nat)) (s:List Nat):∃ k,meetL L s=L++k:=by
 unfold meetL;split
 ·exact⟨[],by simp⟩
 ·exact⟨_,rfl⟩
theorem rowL_pre (ins:List Ins) (l:List Nat):∀(reps:List Int) (L:List (List Nat)),∃ k,rowL ins l reps L=L++k
 | [],L=>⟨[],by simp[rowL]⟩
 | x::reps,L=>by
   obtain⟨k,h⟩:=meetL_pre L (nextL ins l x)
   obtain⟨k2,h2⟩:=rowL_pre ins l reps (meetL L (nextL ins l x))
   exact⟨k++k2,by show rowL ins l reps (meetL L (nextL ins l x))=_;rw[h2,h,List.append_assoc]⟩
theorem rowL_len (ins:List Ins) (l:List Nat) (reps:List Int) (L:List (List Nat)):L.length≤(rowL ins l reps L).length:=by
 obtain⟨k,h⟩:=rowL_pre ins l reps L
 rw[h,List.length_append];omega
theorem rowL_take {ins:List Ins} {l:List Nat} {reps:List Int} {k:Nat} {x:Int} (h:reps[k]?=some x) (L:List (List Nat)):rowL ins l (reps.take (k+1)) L=meetL (rowL ins l (reps.take k) L) (nextL ins l x):=by
 rw[List.take_add_one,h];simp[rowL]
def explore (ins:List Ins) (reps:List Int):Nat→Nat→List (List Nat)→List (List Nat)
 | 0,_,L=>L
 | f+1,i,L=>if i < L.length∧L.length < 1025 then(match L[i]? with
   | some l=>explore ins reps f (i+1) (rowL ins l reps L)
   | none=>L) else L
theorem explore_len (ins:List Ins) (reps:List Int):∀(f i:Nat) (L:List (List Nat)),L.length≤(explore ins reps f i L).length
 | 0,i,L=>Nat.le_refl _
 | f+1,i,L=>by
   simp only[explore]
   split
   ·cases L[i]? with
    | none=>exact Nat.le_refl _
    | some l=>
      have h1:=rowL_len ins l reps L
      have h2:=explore_len ins reps f (i+1) (rowL ins l reps L)
      simp only;omega
   ·exact Nat.le_refl _
def statesFrom (ins:List Ins) (reps:List Int) (i:Nat) (L:List (List Nat)):List (List Nat):=explore ins reps (1025 - i) i L
theorem states_step {ins:List Ins} {reps:List Int} {i:Nat} {L:List (List Nat)} {l:List Nat} (h:L[i]?=some l) (hL:L.length < 1025):statesFrom ins reps i L=statesFrom ins reps (i+1) (rowL ins l reps L):=by
 have hi:=(List.getElem?_eq_some_iff.1 h).1
 unfold statesFrom
 obtain⟨f,hf⟩:∃ f,1025 - i=f+1:=⟨1024 - i,by omega⟩
 rw[hf,show 1025 - (i+1)=f by omega]
 simp only[explore,if_pos (show i < L.length∧L.length < 1025 from⟨hi,hL⟩),h]
theorem states_end {ins:List Ins} {reps:List Int} {i:Nat} {L:List (List Nat)} (h:¬ (i < L.length∧L.length < 1025)):statesFrom ins reps i L=L:=by
 unfold statesFrom
 cases 1025 - i with
 | zero=>rfl
 | succ f=>simp only[explore,if_neg h]
theorem states_len (ins:List Ins) (reps:List Int) (i:Nat) (L:List (List Nat)):L.length≤(statesFrom ins reps i L).length:=explore_len ins reps _ i L
def readG (ins:List Ins):List Spans:=(ins.filter fun i=>i.op == 1).map (·.set)
theorem readG_len (ins:List Ins):(readG ins).length≤ins.length:=by
 unfold readG;rw[List.length_map];exact List.length_filter_le _ _
theorem readG_take {ins:List Ins} {k:Nat} {p:Ins} (h:ins[k]?=some p):readG (ins.take (k+1))=if p.op=1 then readG (ins.take k)++[p.set] else readG (ins.take k):=by
 rw[List.take_add_one,h]
 unfold readG
 by_cases e:p.op=1<;>simp[e]
def topG (g:Prg):Int:=if g.runes then 1114111 else 255
def repsA (cls:List Spans):List Int:=cls.map fun c=>(c.headD (0,0)).1
noncomputable def fullA (g:Prg):Nat×Int:=
 if acceptG g≠0 then(0,acceptG g)
 else if 1024 < (readG g.ins).length then(0,4)
 else match splitA (readG g.ins) (endsR (readG g.ins) (topG g)) (topG g) with
  | none=>(0,4)
  | some cls=>if 1024 < (statesFrom g.ins (repsA cls) 0 (meetL [] (stateL g.ins [0]))).length then(0,4) else((statesFrom g.ins (repsA cls) 0 (meetL [] (stateL g.ins [0]))).length,0)
theorem refSpans_set {s:Spans} (h:refSpans s=0):SetV s∧s.length≤64:=by
 unfold refSpans at h
 split at h
 ·cases h
 rename_i h1
 split at h
 ·cases h
 rename_i h2
 have hb:∀ k,k < s.length→badAt s k=false:=fun k hk=>by
  rw[Bool.eq_false_iff]
  intro hb
  exact h1 (List.any_eq_true.2 ⟨k,List.mem_range.2 hk,hb⟩)
 have hgood:∀ p∈s,0≤p.1∧p.1≤p.2∧p.2≤1114111:=fun p hp=>by
  obtain⟨k,hk⟩:=List.getElem?_of_mem hp
  have:=hb k (List.getElem?_eq_some_iff.1 hk).1
  simp only[badAt,hk,Bool.or_eq_false_iff,Bool.not_eq_false',decide_eq_true_eq]at this
  exact this.1
 have hsep:∀(k:Nat) (p q:Int×Int),s[k]?=some p→s[k+1]?=some q→p.2+2≤q.1:=fun k p q hp hq=>by
  have:=hb (k+1) (List.getElem?_eq_some_iff.1 hq).1
  simp only[badAt,hq,hp,Bool.or_eq_false_iff,Bool.not_eq_false',decide_eq_true_eq,decide_eq_false_iff_not]at this
  omega
 refine⟨⟨?_,hgood⟩,by omega⟩
 rw[List.pairwise_iff_getElem]
 intro i j hi hj hij
 have key:∀ d (j:Nat) (hj:j < s.length),j=i+1+d→s[i].2+2≤s[j].1:=by
  intro d
  induction d with
  | zero=>
    intro j hj hd
    have:=hsep i s[i] s[j] (List.getElem?_eq_getElem hi) (by rw[← List.getElem?_eq_getElem hj];congr 1;omega)
    exact this
  | succ d ih=>
    intro j hj hd
    have h3:=ih (j - 1) (by omega) (by omega)
    have h4:=hsep (j - 1) s[j - 1] s[j] (List.getElem?_eq_getElem (by omega)) (by rw[← List.getElem?_eq_getElem hj];congr 1;omega)
    have h5:=hgood s[j - 1] (List.getElem_mem _)
    omega
 exact key (j - i - 1) j hj (by omega)
theorem readG_ok {g:Prg} (h:validG g=0):∀ s∈readG g.ins,SetV s∧refSpans s=0∧s.length≤64:=by
 intro s hs
 unfold readG at hs
 obtain⟨i,hi,rfl⟩:=List.mem_map.1 hs
 obtain⟨hi,hop⟩:=List.mem_filter.1 hi
 simp at hop
 unfold validG at h
 split at h
 ·cases h
 split at h
 ·cases h
 split at h
 ·rename_i h3
  rw[Bool.and_eq_true,List.all_eq_true]at h3
  have:=h3.1 i hi
  simp only[okIns,Bool.and_eq_true,Bool.or_eq_true,beq_iff_eq,decide_eq_true_eq]at this
  have h4:refSpans i.set=0:=by omega
  have:=refSpans_set h4
  exact⟨this.1,h4,this.2⟩
 ·cases h
def StatesOk (N:Nat) (L:List (List Nat)):Prop:=∀ l∈L,(∀ n∈l,n < N)∧l.length≤N
theorem StatesOk.meet {ins:List Ins} {L:List (List Nat)} (h:StatesOk ins.length L) (ns:List Nat):StatesOk ins.length (meetL L (stateL ins ns)):=by
 unfold meetL
 split
 ·exact h
 ·intro l hl
  rcases List.mem_append.1 hl with h1|h1
  ·exact h l h1
  ·rw[List.mem_singleton.1 h1];exact stateL_ok ins ns
theorem StatesOk.row {ins:List Ins} (l:List Nat):∀ {reps:List Int} {L:List (List Nat)},StatesOk ins.length L→StatesOk ins.length (rowL ins l reps L)
 | [],L,h=>h
 | x::reps,L,h=>StatesOk.row l (reps:=reps) (h.meet _)
section meet
theorem app_lz {H:List MB} {i n z:Nat} {L:List (List Nat)} {s:List Nat} {t:Bool} (hi:getRow H i=some (1,L.map lvAV,z)) (hz:z≤n) (hn:L.length=n) (hr:n+1≤4000000000) :
  evAppend Tryz.prog H 58 58 (.ms i 1 n 0 n) (.sl t [.sl false (s.map NV)])=some (.ms i 1 (n+1) 0 (n+1),H.set i (.row 1 ((L++[s]).map lvAV) z)):=by
 have hs:srcElems Tryz.prog H 22 (.sl t [.sl false (s.map NV)])=some [.sl false (s.map NV)]:=rfl
 rw[evAppend_end (e:=22) (by kernel_rfl) (by kernel_rfl) (k:=1) (by kernel_rfl) (by_:=24) (by kernel_rfl) (ze:=.sl true []) (by kernel_rfl) rfl (by omega) hs (by simp[AV.cells,AV.ok]) hi (by rw[List.length_map];exact hn) hz (room_ok (by simp;omega) (by omega))]
 rw[List.map_append];rfl
def kent (L:List (List Nat)):List (AV×AV):=L.map fun l=>(.str (keyS l),.bool true)
theorem kent_find {L:List (List Nat)} {s:List Nat} (hL:∀ l∈L,∀ n∈l,n < 65536) (hs:∀ n∈s,n < 65536):findMp (.str (keyS s)) (kent L)=if s∈L then some (.bool true) else none:=by
 induction L with
 | nil=>rfl
 | cons l L ih=>
   have ih:=ih fun l hl=>hL l (by simp[hl])
   show (if AV.beq (.str (keyS l)) (.str (keyS s))=true then some (.bool true) else findMp (.str (keyS s)) (kent L))=_
   by_cases e:l=s
   ·subst e
    rw[if_pos (beq_str.2 rfl),if_pos (by simp)]
   ·rw[if_neg (fun h=>e (keyS_inj (hL l (by simp)) hs (by have:=beq_str.1 h;simpa using this))),ih]
    simp[Ne.symm e]
theorem kent_upd {L:List (List Nat)} {s:List Nat} (hL:∀ l∈L,∀ n∈l,n < 65536) (hs:∀ n∈s,n < 65536) (h:s ∉ L):updMp (.str (keyS s)) (.bool true) (kent L)=kent (L++[s]):=by
 induction L with
 | nil=>rfl
 | cons l L ih=>
   have ih:=ih (fun l hl=>hL l (by simp[hl])) (fun h2=>h (by simp[h2]))
   have e:l≠s:=fun e=>h (by simp[e])
   show (if AV.beq (.str (keyS l)) (.str (keyS s))=true then _ else _::updMp (.str (keyS s)) (.bool true) (kent L))=_
   rw[if_neg (fun h=>e (keyS_inj (hL l (by simp)) hs (by have:=beq_str.1 h;simpa using this))),ih]
   rfl
abbrev meetH (A B:MB) (L:List (List Nat)):List MB:=[A,B,.row 1 [.ms 3 1 L.length 0 L.length] 0,.row 1 (L.map lvAV) 0,.mp .str (kent L),.row 1 [.mpr 4] 0]
abbrev meetC:List AV:=[.rf 0 1 0 0,.rf 5 1 0 0,.rf 2 1 0 0]
theorem frMeet (t:Bool) (l:List AV) (h:AV.plainL l=true) (H:List MB):frzArgs pol1 35 0 (.sl t l::meetC) H=some (.sl false l::meetC,H):=by
 have h1:frzArgs pol1 35 1 meetC H=some (meetC,H):=frzArgs_mix _ _ _ rfl
 unfold frzArgs
 rw[if_neg (show ¬ pol1.byref 35 0=true by decide),fz_slp h]
 simp only
 rw[h1]
theorem sf35 (g:Prg) (B:MB) (hl:g.ins.length≤8192) (hw:Leads g.ins) (t:Bool) (ns:List Nat) (hnl:ns.length≤1000000) (hns:∀ n∈ns,n < g.ins.length) (L:List (List Nat)) (hL:StatesOk g.ins.length L) (hLl:L.length≤1000000) :
  call Tryz.prog pol1 35 (.sl t (ns.map NV)::meetC) (meetH (.row 3 [prgAV g] 0) B L)=some (.tup [],meetH (.row 3 [prgAV g] 0) B (meetL L (stateL g.ins ns))):=by
 refine call_run2 (pol:=pol1) Tryz.func35 rfl rfl rfl rfl (frMeet t _ (plain_nv ns) _) ?_
 have rp:∀ H1 r H,retPol pol1 35 H1 r H=some (r,H):=fun H1 r H=>rfl
 have h36:=kf30l g.ins (by omega) hw ns hnl hns
 obtain⟨s1,s2⟩:=stateL_ok g.ins ns
 generalize stateL g.ins ns=s at *
 have h37:=kf51 s (by omega)
 have hf:=kent_find (L:=L) (s:=s) (fun l hl' n hn=>by have:=(hL l hl').1 n hn;omega) (fun n hn=>by have:=s1 n hn;omega)
 by_cases h0:s=[]
 ·subst h0
  have hm:meetL L []=L:=by simp[meetL]
  rw[hm]
  rw[List.map_nil]at h36 h37
  simp +contextual (disch:=omega) only[Tryz.f35,dd35,go_sem,simprocAttr,evAppend,mu35,↓wrap_up,↓wrap_down,↓wrap_pred,↓wrap_sub_nat,h36,h37]
  exact rp _ _ _
 ·have hpos:=List.length_pos_iff.2 h0
  by_cases hin:s∈L
  ·have hm:meetL L s=L:=by simp[meetL,hin]
   rw[if_pos hin]at hf
   rw[hm]
   simp +contextual (disch:=omega) only[Tryz.f35,dd35,go_sem,simprocAttr,evAppend,mu35,↓wrap_up,↓wrap_down,↓wrap_pred,↓wrap_sub_nat,h36,h37,hf]
   exact rp _ _ _
  ·have hm:meetL L s=L++[s]:=by simp[meetL,hin,h0]
   rw[if_neg hin]at hf
   have hu:=kent_upd (L:=L) (s:=s) (fun l hl' n hn=>by have:=(hL l hl').1 n hn;omega) (fun n hn=>by have:=s1 n hn;omega) hin
   have ha:=fun(x y z u v:MB) (t:Bool)=>app_lz (H:=[x,y,z,.row 1 (L.map lvAV) 0,u,v]) (i:=3) (n:=L.length) (s:=s) (t:=t) rfl (Nat.zero_le _) rfl (by omega)
   rw[hm]
   simp +contextual (disch:=omega) only[Tryz.f35,dd35,go_sem,simprocAttr,mu35,↓wrap_up,↓wrap_down,↓wrap_pred,↓wrap_sub_nat,h36,h37,hf,hu,ha]
   rw[rp]
   simp[meetH]
end meet
theorem acc_facts {g:Prg} (h:acceptG g=0):validG g=0∧(∀ i∈g.ins,i.op=0∨i.op=1∨i.op=2∨i.op=3∨i.op=4)∧Leads g.ins∧0 < g.ins.length∧g.ins.length≤8192:=by
 unfold acceptG at h
 split at h
 ·rename_i h1;exact absurd h h1
 rename_i h1
 have hv:validG g=0:=by omega
 split at h
 ·cases h
 rename_i h2
 have hv':=hv
 unfold validG at hv
 split at hv
 ·cases hv
 rename_i h3
 split at hv
 ·cases hv
 rename_i h4
 split at hv
 ·rename_i h5
  rw[Bool.and_eq_true,List.all_eq_true]at h5
  obtain⟨h5,h6⟩:=h5
  refine⟨hv',fun i hi=>?_,fun n i hi=>?_,by omega,by omega⟩
  ·have hm:=h5 i hi
   have h7:i.op≠5:=fun h5=>h2 (List.any_eq_true.2 ⟨i,hi,by simp[h5]⟩)
   simp only[okIns,Bool.and_eq_true,Bool.or_eq_true,beq_iff_eq,decide_eq_true_eq]at hm
   omega
  ·have hm:=h5 i (List.mem_of_getElem? hi)
   have hlt:=(List.getElem?_eq_some_iff.1 hi).1
   simp only[okIns,Bool.and_eq_true,Bool.or_eq_true,beq_iff_eq,decide_eq_true_eq]at hm
   refine⟨by omega,fun h=>by omega,fun h=>by omega,fun h=>?_⟩
   rcases Nat.lt_or_ge (n+1) g.ins.length with h7|h7
   ·exact h7
   ·exfalso
    obtain rfl:n=g.ins.length - 1:=by omega
    simp only[lastGood,hi,Bool.or_eq_true,beq_iff_eq]at h6
    omega
 ·cases hv
theorem reps_at {cls:List Spans} {k:Nat} {c:Spans} (h:cls[k]?=some c) (hp:0 < c.length):∃ p,c[0]?=some p∧(repsA cls)[k]?=some p.1:=by
 cases c with
 | nil=>simp at hp
 | cons p c=>exact⟨p,rfl,by simp[repsA,h]⟩
theorem splitA_pos {L:List Spans} {E:List Int} {top:Int} {cls:List Spans} (h:splitA L E top=some cls):cls.length≤1024∧∀ c∈cls,0 < c.length:=by
 unfold splitA at h
 split at h
 ·cases h
 ·rename_i hb
  cases h
  refine⟨?_,fun c hc=>?_⟩
  ·rw[classes_len]
   exact Nat.le_of_not_lt fun h=>hb (.inl h)
  ·obtain⟨d,hd,rfl⟩:=List.mem_map.1 hc
   exact clsOf_pos hd
structure FS where
 k:Nat
 L:List (List Nat)
 z:Nat
end
section
attribute [local go_sem] List.length_append List.map_append
open Go.Proofs Go.RowKit Go.IntWalk
set_option maxRecDepth 100000
set_option maxHeartbeats 4000000
theorem sf38 (g:Prg) (hb:PrgB g) (l:List Nat) (h1:∀ n∈l,n < g.ins.length) (h2:l.length≤1000000) (x:Int) (H:List MB):call Tryz.prog pol1 38 [.sl false (g.ins.map insAV),lvAV l,I x] H=some (.sl false ((afterL g.ins l x).map NV),H):=kf52 g.ins hb.1 hb.2 l h2 h1 x H
theorem sf13 (g:Prg) (hb:PrgB g) (H:List MB):call Tryz.prog pol1 13 [prgAV g] H=some (.tup [I (fullA g).1,I (fullA g).2],H):=by
 have h33:=kf27 g hb
 have hpg:=plain_prg g
 refine call_run Tryz.func13 rfl rfl rfl rfl rfl rfl (fun _=>rfl) (by simp[AV.plain,AV.plainL,plain_ins]) rfl ?_ H
 by_cases hacc:acceptG g=0
 ·obtain⟨hv,ho,hw,hN,hl⟩:=acc_facts hacc
  have hfull:fullA g=if 1024 < (readG g.ins).length then(0,(4:Int)) else match splitA (readG g.ins) (endsR (readG g.ins) (topG g)) (topG g) with
    | none=>(0,4)
    | some cls=>if 1024 < (statesFrom g.ins (repsA cls) 0 (meetL [] (stateL g.ins [0]))).length then(0,4) else((statesFrom g.ins (repsA cls) 0 (meetL [] (stateL g.ins [0]))).length,0):=by
   unfold fullA;exact if_neg (by simp[hacc])
  have hrd:=readG_ok hv
  have hrl:=readG_len g.ins
  have h34:=sf34 (readG g.ins) (topG g) (by unfold topG;split<;>omega) (by unfold topG;split<;>omega) (fun s h=>(hrd s h).1) (fun s h=>(hrd s h).2.1) (by omega) (fun s h=>(hrd s h).2.2)
  rw[hacc]at h33
  simp +contextual (disch:=omega) only[Tryz.f13,dd13,go_sem,simprocAttr,evAppend,mu13,↓wrap_up,↓wrap_down,↓wrap_pred,↓wrap_sub_nat,h33]
  refine W_count (M:=(mskOf (pol1.mask 13) (pol1.gc 13) (pol1.acts 13) 0 6)) rfl g.ins.length (fun i=>(⟨85,[(25,I i),(24,I g.ins.length),(23,.sl false (g.ins.map insAV)),(5,.ms 1 1 (readG (g.ins.take i)).length 0 (readG (g.ins.take i)).length),(1,.rf 0 1 0 0)],[.row 3 [prgAV g] 0,.row 1 ((readG (g.ins.take i)).map setAV) 0]⟩:St)) (fun i=>True) ?_ ?_ trivial _ (by first|rfl|(refine prep_cut rfl (by rfl) (by rfl) (by rfl) ?_ ?_<;>simp[AV.underL,AV.under,MB.under,underL_plain,under_plain,plain_ints,plain_span,plain_ins,plain_prg,-List.map_take,plain_sets]))
  ·intro i hi _
   obtain⟨p,hp⟩:∃ p,g.ins[i]?=some p:=⟨_,List.getElem?_eq_getElem hi⟩
   have hp':(g.ins.map insAV)[i]?=some (insAV p):=by simp[hp]
   have hst:=readG_take hp
   have hrl2:=readG_len (g.ins.take i)
   have hlt:=List.length_take_le i g.ins
   generalize readG (g.ins.take i)=L at *
   generalize readG (g.ins.take (i+1))=L2 at *
   by_cases h1:p.op=1
   ·rw[if_pos h1]at hst
    have a1:=fun(x y:MB) (t:Bool)=>app_st (H:=[x,.row 1 (L.map setAV) 0,y]) (i:=1) (p:=p.set) (t:=t) rfl (Nat.zero_le _) rfl (by omega)
    have hln:L2.length=L.length+1:=by rw[hst];simp
    rw[hln]
    simp only[List.set_cons_succ,List.set_cons_zero]at a1
    rw[← hst]at a1
    simp +contextual (disch:=omega) only[Tryz.f13,dd13,go_sem,simprocAttr,mu13,↓wrap_up,↓wrap_down,↓wrap_pred,↓wrap_sub_nat,hp',h1,a1]
    exact(by first|rfl|(refine prep_cut rfl (by rfl) (by rfl) (by rfl) ?_ ?_<;>simp[AV.underL,AV.under,MB.under,underL_plain,under_plain,plain_ints,plain_span,plain_ins,plain_prg,-List.map_take,plain_sets]))
   ·rw[if_neg h1]at hst
    rw[hst]
    simp +contextual (disch:=omega) only[Tryz.f13,dd13,go_sem,simprocAttr,mu13,↓wrap_up,↓wrap_down,↓wrap_pred,↓wrap_sub_nat,hp',h1]
    exact(by first|rfl|(refine prep_cut rfl (by rfl) (by rfl) (by rfl) ?_ ?_<;>simp[AV.underL,AV.under,MB.under,underL_plain,under_plain,plain_ints,plain_span,plain_ins,plain_prg,-List.map_take,plain_sets]))
  ·intro _
   rw[List.take_length]
   have hpo:(topG g=255∧g.runes=false)∨(topG g=1114111∧g.runes=true):=by
    unfold topG;cases g.runes<;>simp
   have h34':∀ x,call Tryz.prog pol1 34 [.ms 1 1 (readG g.ins).length 0 (readG g.ins).length,I (topG g)] [x,.row 1 ((readG g.ins).map setAV) 0] =
     some (if 1024 < (readG g.ins).length then splitR none else splitR (splitA (readG g.ins) (endsR (readG g.ins) (topG g)) (topG g)),[x,.row 1 ((readG g.ins).map setAV) (readG g.ins).length]):=fun x=>by
    have hfz:fz (.ms 1 1 (readG g.ins).length 0 (readG g.ins).length) [x,.row 1 ((readG g.ins).map setAV) 0]=some (.sl false ((readG g.ins).map setAV),[x,.row 1 ((readG g.ins).map setAV) (readG g.ins).length]):=by
     rw[fz_row (k:=1) (z:=0) (els:=(readG g.ins).map setAV) rfl (List.length_map _) (plain_sets _)]
     simp[mark,getRow]
    rw[call_frz2 (l:=[.sl false ((readG g.ins).map setAV),I (topG g)]) (H1:=[x,.row 1 ((readG g.ins).map setAV) (readG g.ins).length]) rfl ?_ (by simp[AV.plainL,AV.plain,plain_sets])]
    ·exact h34 _
    ·have h1:pol1.byref 34 0=false:=rfl
     have h2:pol1.byref 34 (0+1)=false:=rfl
     simp only[frzArgs,h1,h2,Bool.false_eq_true,if_false,hfz,fz_plain _ (show AV.plain (I (topG g))=true from rfl)]
   generalize topG g=top at *
   have hsp:∀ cls,splitA (readG g.ins) (endsR (readG g.ins) top) top=some cls→cls.length≤1024∧∀ c∈cls,0 < c.length:=fun cls h=>splitA_pos h
   by_cases hbig:1024 < (readG g.ins).length
   ·rw[if_pos hbig]at hfull
    simp only[if_pos hbig]at h34'
    rw[hfull]
    rcases hpo with ⟨rfl,hr⟩|⟨rfl,hr⟩
    ·simp +contextual (disch:=omega) only[Tryz.f13,dd13,go_sem,simprocAttr,evAppend,mu13,↓wrap_up,↓wrap_down,↓wrap_pred,↓wrap_sub_nat,h34',hr,splitR]
     exact⟨_,rfl⟩
    ·simp +contextual (disch:=omega) only[Tryz.f13,dd13,go_sem,simprocAttr,evAppend,mu13,↓wrap_up,↓wrap_down,↓wrap_pred,↓wrap_sub_nat,h34',hr,splitR]
     exact⟨_,rfl⟩
   ·rw[if_neg hbig]at hfull
    simp only[if_neg hbig]at h34'
    generalize splitA (readG g.ins) (endsR (readG g.ins) top) top=sp at *
    generalize readG g.ins=RG at *
    cases sp with
    | none=>
      simp only at hfull
      rw[hfull]
      rcases hpo with ⟨rfl,hr⟩|⟨rfl,hr⟩
      ·simp +contextual (disch:=omega) only[Tryz.f13,dd13,go_sem,simprocAttr,evAppend,mu13,↓wrap_up,↓wrap_down,↓wrap_pred,↓wrap_sub_nat,h34',hr,splitR]
       exact⟨_,rfl⟩
      ·simp +contextual (disch:=omega) only[Tryz.f13,dd13,go_sem,simprocAttr,evAppend,mu13,↓wrap_up,↓wrap_down,↓wrap_pred,↓wrap_sub_nat,h34',hr,splitR]
       exact⟨_,rfl⟩
    | some cls=>
      obtain⟨hcl,hcp⟩:=hsp cls rfl
      simp only at hfull
      have hS0:StatesOk g.ins.length (meetL [] (stateL g.ins [0])):=StatesOk.meet (ins:=g.ins) (L:=[]) (fun l h=>by cases h) [0]
      have hm1:=(meetL_len [] (stateL g.ins [0])).2
      have h35:∀ B,call Tryz.prog pol1 35 [.sl true [I 0],.rf 0 1 0 0,.rf 5 1 0 0,.rf 2 1 0 0] [.row 3 [prgAV g] 0,B,.row 1 [.ms 3 1 0 0 0] 0,.row 1 [] 0,.mp .str [],.row 1 [.mpr 4] 0]=some (.tup [],meetH (.row 3 [prgAV g] 0) B (meetL [] (stateL g.ins [0]))):=fun B=>sf35 g B hl hw true [0] (by simp) (by simpa using hN) [] (fun l h=>by cases h) (by simp)
      generalize meetL [] (stateL g.ins [0])=L0 at *
      have hpc:=plain_sets cls
      rcases hpo with ⟨rfl,hr⟩|⟨rfl,hr⟩
      all_goals
       simp +contextual (disch:=omega) only[Tryz.f13,dd13,go_sem,simprocAttr,evAppend,mu13,↓wrap_up,↓wrap_down,↓wrap_pred,↓wrap_sub_nat,h34',hr,splitR,h35]
       refine W_for (σ:=FS) (M:=(mskOf (pol1.mask 13) (pol1.gc 13) (pol1.acts 13) 0 22)) rfl (fun x=>(⟨85,[(14,I x.k),(13,.clo 35 meetC),(11,.rf 2 1 0 0),(9,.sl false (cls.map setAV)),(1,.rf 0 1 0 0)],meetH (.row 3 [prgAV g] 0) (.row 1 (RG.map setAV) RG.length) x.L⟩:St))
        (fun x=>x.k≤x.L.length∧StatesOk g.ins.length x.L∧x.L.length≤1024∧statesFrom g.ins (repsA cls) x.k x.L=statesFrom g.ins (repsA cls) 0 L0) (fun x=>3000 - x.k) ⟨0,L0,0⟩ ?_ ⟨Nat.zero_le _,hS0,by simp only[List.length_nil]at hm1;show L0.length≤1024;omega,rfl⟩ _ rfl
       rintro⟨k,L,z⟩ ⟨q1,q3,q4,q5⟩
       simp only at q1 q3 q4 q5 ⊢
       by_cases hk1:k < L.length
       ·obtain⟨l,hlk⟩:∃ l,L[k]?=some l:=⟨_,List.getElem?_eq_getElem hk1⟩
        have hlo:=q3 l (List.mem_of_getElem? hlk)
        have hn38:=sf38 g hb l hlo.1 (by omega)
        have hstep:=states_step (ins:=g.ins) (reps:=repsA cls) hlk (by omega)
        have hrl:(repsA cls).length=cls.length:=by simp[repsA]
        simp +contextual (disch:=omega) only[Tryz.f13,dd13,go_sem,simprocAttr,evAppend,mu13,↓wrap_up,↓wrap_down,↓wrap_pred,↓wrap_sub_nat,meetH,meetC]
        refine W_for (σ:=FS) (M:=(mskOf (pol1.mask 13) (pol1.gc 13) (pol1.acts 13) 0 25)) rfl (fun x=>(⟨85,[(62,I x.k),(61,I cls.length),(60,.sl false (cls.map setAV)),(14,I k),(13,.clo 35 meetC),(11,.rf 2 1 0 0),(9,.sl false (cls.map setAV)),(1,.rf 0 1 0 0)],meetH (.row 3 [prgAV g] 0) (.row 1 (RG.map setAV) RG.length) x.L⟩:St))
         (fun x=>x.k≤cls.length∧StatesOk g.ins.length x.L∧x.L.length≤1024∧x.L=rowL g.ins l ((repsA cls).take x.k) L) (fun x=>cls.length - x.k) ⟨0,L,0⟩ ?_ ⟨Nat.zero_le _,q3,q4,rfl⟩ _ rfl
        rintro⟨j,L',z'⟩ ⟨p1,p3,p2,p4⟩
        simp only at p1 p2 p3 p4 ⊢
        obtain⟨ext,hext⟩:=rowL_pre g.ins l ((repsA cls).take j) L
        rw[← p4]at hext
        have hlk':(L'.map lvAV)[k]?=some (lvAV l):=by
         rw[hext,List.getElem?_map,List.getElem?_append_left hk1,hlk];rfl
        have hkl:k < L'.length:=by rw[hext,List.length_append];omega
        by_cases hj:j < cls.length
        ·obtain⟨c,hcj⟩:∃ c,cls[j]?=some c:=⟨_,List.getElem?_eq_getElem hj⟩
         obtain⟨p,hp0,hpr⟩:=reps_at hcj (hcp c (List.mem_of_getElem? hcj))
         have hcj':(cls.map setAV)[j]?=some (setAV c):=by simp[hcj]
         have hp0':(c.map spanAV)[0]?=some (spanAV p):=by simp[hp0]
         have hnx:=hn38 p.1
         have hrt:=rowL_take (ins:=g.ins) (l:=l) hpr L
         rw[← p4]at hrt
         have hal:=afterL_lt hw l p.1
         have hall:=afterL_len g.ins l p.1
         have hso:=p3.meet (afterL g.ins l p.1)
         have hml:=meetL_len L' (stateL g.ins (afterL g.ins l p.1))
         have hm35:=fun B=>sf35 g B hl hw false (afterL g.ins l p.1) (by omega) hal L' p3 (by omega)
         simp only[meetH,meetC]at hm35
         simp only[nextL]at hrt
         generalize meetL L' (stateL g.ins (afterL g.ins l p.1))=L2 at *
         generalize afterL g.ins l p.1=ns at *
         by_cases hbig2:1024 < L2.length
         ·have hbad:1024 < (statesFrom g.ins (repsA cls) 0 L0).length:=by
           rw[← q5,hstep]
           have h1:=states_len g.ins (repsA cls) (k+1) (rowL g.ins l (repsA cls) L)
           have h2:L2.length≤(rowL g.ins l (repsA cls) L).length:=by
            have e:rowL g.ins l (repsA cls) L=rowL g.ins l ((repsA cls).drop (j+1)) (rowL g.ins l ((repsA cls).take (j+1)) L):=by
             unfold rowL
             rw[← List.foldl_append,List.take_append_drop]
            rw[e,hrt]
            exact rowL_len _ _ _ _
           omega
          rw[hfull,if_pos hbad]
          simp +contextual (disch:=omega) only[Tryz.f13,dd13,go_sem,simprocAttr,evAppend,mu13,↓wrap_up,↓wrap_down,↓wrap_pred,↓wrap_sub_nat,meetH,meetC,hlk',hcj',hp0',hnx,hm35]
          repeat' (first|intro _|apply And.intro|(unfold dOk;kernel_rfl)|exact St.beq_refl _|(show altO _ _ _ _=true;kernel_rfl)|(show (_ || _)=true;kernel_rfl)|(show (_ && _)=true;kernel_rfl))
          all_goals exact⟨_,rfl⟩
         ·simp +contextual (disch:=omega) only[Tryz.f13,dd13,go_sem,simprocAttr,evAppend,mu13,↓wrap_up,↓wrap_down,↓wrap_pred,↓wrap_sub_nat,meetH,meetC,hlk',hcj',hp0',hnx,hm35]
          repeat' (first|intro _|apply And.intro|(unfold dOk;kernel_rfl)|exact St.beq_refl _|(show altO _ _ _ _=true;kernel_rfl)|(show (_ || _)=true;kernel_rfl)|(show (_ && _)=true;kernel_rfl))
          all_goals exact⟨⟨j+1,L2,0⟩,⟨hj,hso,by show L2.length≤1024;omega,hrt.symm⟩,by show cls.length - (j+1) < cls.length - j;omega,rfl⟩
        ·obtain rfl:j=cls.length:=by omega
         rw[List.take_of_length_le (by omega)]at p4
         rw[← p4]at hstep
         have hge:=rowL_len g.ins l (repsA cls) L
         rw[← p4]at hge
         simp +contextual (disch:=omega) only[Tryz.f13,dd13,go_sem,simprocAttr,evAppend,mu13,↓wrap_up,↓wrap_down,↓wrap_pred,↓wrap_sub_nat,meetH,meetC]
         exact⟨⟨k+1,L',0⟩,⟨by show k+1≤L'.length;omega,p3,p2,hstep.symm.trans q5⟩,by show 3000 - (k+1) < 3000 - k;omega,rfl⟩
       ·have hend:=states_end (ins:=g.ins) (reps:=repsA cls) (i:=k) (L:=L) (by omega)
        rw[hend]at q5
        rw[hfull,← q5,if_neg (by omega)]
        have hkl:k=L.length:=by omega
        subst hkl
        simp +contextual (disch:=omega) only[Tryz.f13,dd13,go_sem,simprocAttr,evAppend,mu13,↓wrap_up,↓wrap_down,↓wrap_pred,↓wrap_sub_nat,meetH,meetC]
        exact⟨_,rfl⟩
 ·have hfull:fullA g=(0,acceptG g):=by unfold fullA;rw[if_pos hacc]
  rw[hfull]
  generalize acceptG g=e at *
  simp +contextual (disch:=omega) only[Tryz.f13,dd13,go_sem,simprocAttr,evAppend,mu13,↓wrap_up,↓wrap_down,↓wrap_pred,↓wrap_sub_nat,h33]
  exact⟨_,rfl⟩
end
section
attribute [local go_sem] List.length_append List.map_append
open Go.Proofs Go.RowKit Go.IntWalk
set_option maxRecDepth 100000
set_option maxHeartbeats 4000000
section
variable {ins:List Ins} {first:List Nat} {size:Nat} {P P':Nat→Prop} {D C:Nat} {a:Lay2} {c:CS} {H H':List MB}
theorem DI.frame (h:DI ins first size P D C a c H) (hl:H.length≤H'.length) (hs:∀ i,¬ P i→i < H.length→H'[i]?=H[i]?):DI ins first size P D C a c H':=by
 have old:∀ {i:Nat} {x:MB},¬ P i→H[i]?=some x→H'[i]?=some x:=fun {i x} hp hx=>by rw[hs i hp (List.getElem?_eq_some_iff.1 hx).1];exact hx
 obtain⟨es,hC,hes,hce⟩:=h.cache
 refine⟨old h.lo.2.1.1 h.d,⟨fun i hi=>Nat.lt_of_lt_of_le (h.lo.1 i hi) hl,h.lo.2⟩,⟨es,old h.lo.2.1.2 hC,hes,hce⟩,fun t l f ht=>?_,fun q l hq=>?_,h.small⟩
 ·obtain⟨b,m,c1,c2⟩:=h.st t l f ht
  exact⟨b,m,old (h.lo.2.2.1 t _ ht) c1,c2⟩
 ·obtain⟨es',d1,d2⟩:=h.nx q l hq
  exact⟨es',old (h.lo.2.2.2 q _ hq) d1,d2⟩
theorem DI.push (h:DI ins first size P D C a c H) (K:List MB):DI ins first size P D C a c (H++K):=
 h.frame (by simp) (fun i _ hi=>List.getElem?_append_left hi)
theorem DI.repro (h:DI ins first size P D C a c H) (hl:∀ i,P' i→i < H.length) (hn:∀ i,P' i→i≠D∧i≠C∧a.st i=none∧a.nx i=none):DI ins first size P' D C a c H:=
 ⟨h.d,⟨hl,⟨fun hp=>(hn D hp).1 rfl,fun hp=>(hn C hp).2.1 rfl⟩,fun i x hx hp=>(by rw[(hn i hp).2.2.1]at hx;cases hx),fun i x hx hp=>(by rw[(hn i hp).2.2.2]at hx;cases hx)⟩,h.cache,h.st,h.nx,h.small⟩
theorem DI.off (h:DI ins first size P D C a c H) {i:Nat} (hi:P i):i≠D∧i≠C∧a.st i=none∧a.nx i=none:=by
 refine⟨fun e=>h.lo.2.1.1 (e ▸ hi),fun e=>h.lo.2.1.2 (e ▸ hi),?_,?_⟩
 ·cases hx:a.st i with
  | none=>rfl
  | some x=>exact absurd hi (h.lo.2.2.1 i x hx)
 ·cases hx:a.nx i with
  | none=>rfl
  | some x=>exact absurd hi (h.lo.2.2.2 i x hx)
theorem DI.new (h:DI ins first size P D C a c H) {i:Nat} (hi:H.length≤i):i≠D∧i≠C∧a.st i=none∧a.nx i=none:=by
 obtain⟨es,hC,_⟩:=h.cache
 have hDl:=(List.getElem?_eq_some_iff.1 h.d).1
 have hCl:=(List.getElem?_eq_some_iff.1 hC).1
 refine⟨by omega,by omega,?_,?_⟩
 ·cases hx:a.st i with
  | none=>rfl
  | some x=>have:=(h.st_at hx).1;omega
 ·cases hx:a.nx i with
  | none=>rfl
  | some x=>have:=(h.nx_at hx).1;omega
end
structure FR (RD LB LB':Nat) (H H':List MB):Prop where
 lb:LB' = LB∨H.length≤LB'
 len:H.length≤H'.length
 same:∀ i,i≠RD→i≠LB→i < H.length→H'[i]?=H[i]?
theorem FR.refl (RD LB:Nat) (H:List MB):FR RD LB LB H H:=⟨.inl rfl,Nat.le_refl _,fun _ _ _ _=>rfl⟩
theorem FR.trans {RD LB LB1 LB2:Nat} {H H1 H2:List MB} (h:FR RD LB LB1 H H1) (h2:FR RD LB1 LB2 H1 H2):FR RD LB LB2 H H2:=by
 refine⟨?_,Nat.le_trans h.len h2.len,fun i i1 i2 i3=>?_⟩
 ·rcases h2.lb with e|e
  ·rw[e];exact h.lb
  ·exact .inr (Nat.le_trans h.len e)
 ·have:i≠LB1:=by
   rcases h.lb with e|e
   ·rw[e];exact i2
   ·omega
  rw[h2.same i i1 this (Nat.lt_of_lt_of_le i3 h.len),h.same i i1 i2 i3]
end
section
attribute [local go_sem] evAppend
open Go.Proofs Go.RowKit Go.IntWalk
set_option maxRecDepth 100000
set_option maxHeartbeats 4000000
def endsL (ins:List Ins) (first:List Nat) (xs:List Int):List Int:=(List.range (xs.length+1)).map fun p=>runL ins (xs.drop p) p first (-1)
def endsC (ins:List Ins) (size:Nat) (first:List Nat) (xs:List Int) (c:CS):Nat→CS
 | 0=>c
 | n+1=>runC ins size (xs.drop n) first ((endsC ins size first xs c n).need size first)
theorem runC_made (ins:List Ins) (size:Nat):∀(xs:List Int) (l:List Nat) (c:CS),(runC ins size xs l c).made≤c.made+xs.length
 | xs,l,c=>by
   by_cases hl:l=[]
   ·subst hl;rw[runC_nil];omega
   ·cases xs with
    | nil=>simp[runC,hl]
    | cons x xs=>
      simp only[runC,if_neg hl]
      have h1:=runC_made ins size xs (nextL ins l x) (c.need size (nextL ins l x))
      have h2:=CS.need_made c size (nextL ins l x)
      simp only[List.length_cons]
      omega
theorem endsC_made (ins:List Ins) (size:Nat) (first:List Nat) (xs:List Int) (c:CS):∀ n,(endsC ins size first xs c n).made≤c.made+n * (xs.length+1)
 | 0=>by simp[endsC]
 | n+1=>by
   have h1:=endsC_made ins size first xs c n
   have h2:=runC_made ins size (xs.drop n) first ((endsC ins size first xs c n).need size first)
   have h3:=CS.need_made (endsC ins size first xs c n) size first
   rw[List.length_drop]at h2
   simp only[endsC]
   rw[Nat.succ_mul]
   omega
theorem fill_set {l:List Int} {N n:Nat} {v:Int} (hl:l.length=N) (h:n < N) (hv:l[n]?=some v):(l.take n++List.replicate (N - n) 0).set n v=l.take (n+1)++List.replicate (N - (n+1)) 0:=by
 have ht:(l.take n).length=n:=by rw[List.length_take];omega
 rw[List.set_append_right _ _ (by omega),ht,Nat.sub_self,List.take_add_one,hv]
 obtain⟨m,hm⟩:∃ m,N - n=m+1:=⟨N - n - 1,by omega⟩
 rw[hm,show N - (n+1)=m by omega]
 simp[List.replicate_succ]
theorem fill_at {l:List Int} {N n:Nat} (hl:l.length=N) (h:n < N):(l.take n++List.replicate (N - n) 0)[n]?=some 0:=by
 have ht:(l.take n).length=n:=by rw[List.length_take];omega
 rw[List.getElem?_append_right (by omega),ht,Nat.sub_self,List.getElem?_replicate,if_pos (by omega)]
theorem fill_len {l:List Int} {N n:Nat} (hl:l.length=N) (h:n≤N):(l.take n++List.replicate (N - n) 0).length=N:=by
 rw[List.length_append,List.length_take,List.length_replicate];omega
theorem endsL_len (ins:List Ins) (first:List Nat) (xs:List Int):(endsL ins first xs).length=xs.length+1:=by simp[endsL]
theorem endsL_at (ins:List Ins) (first:List Nat) (xs:List Int) {n:Nat} (h:n < xs.length+1):(endsL ins first xs)[n]?=some (runL ins (xs.drop n) n first (-1)):=by simp[endsL,h]
structure ES where
 n:Nat
 H:List MB
 a:Lay2
theorem kf20e {ins:List Ins} {first:List Nat} {size:Nat} {P:Nat→Prop} {D C:Nat} {a:Lay2} {c:CS} {H:List MB} (hi:DI ins first size P D C a c H) (ho:InsOk ins) (hf1:∀ n∈first,n < ins.length) (hf2:first.length≤ins.length) (xs:List Int) (hx:xs.length≤65536) (hmd:c.made+5000000000≤4000000000000) :
  ∃ r,(∃ H' a',r=(AV.tup [.sl false ((endsL ins first xs).map I),I 0],H')∧DI ins first size P D C a' (endsC ins size first xs c (xs.length+1)) H'∧KeepsLow P H H')∧call Tryz.prog pol1 20 [.rf D 1 0 0,.sl false (xs.map I)] H=some r:=by
 have rp:∀ H1 r H,retPol pol1 20 H1 r H=some (r,H):=fun H1 r H=>rfl
 have hel:=endsL_len ins first xs
 have hpx:AV.plain (.sl false (xs.map I))=true:=by simp[AV.plain,plain_ints]
 refine call_run2E (pol:=pol1) Tryz.func20 rfl rfl rfl rfl (frzArgs_mix _ _ _ (by simp only[mixOk,hpx,Bool.or_true,Bool.true_and];rfl)) ?_
 simp +contextual (disch:=omega) only[Tryz.f20,dd20,go_sem,↓reduceIte,List.reduceReplicate,Nat.reduceAdd,Nat.reduceSub,reduceCtorEq,Nat.reduceLeDiff,Nat.reduceMul,Nat.reduceLT,Nat.reduceEqDiff,Int.reduceBNe,Int.reduceBEq,Int.reduceEq,Int.reduceLT,Int.reduceLE,Int.reduceGT,Int.reduceGE,List.length_append,List.map_append,mu20,Nat.reduceBEq,↓wrap_up,↓wrap_down,↓wrap_pred,↓wrap_sub_nat,Int.reduceToNat]
 have hi1:DI ins first size (fun i=>P i∨i=H.length) D C a c (H++[.row 1 (List.replicate (xs.length+1) (I 0)) 0]):=
  (hi.push _).repro (fun i hp=>by
    rw[List.length_append]
    rcases hp with hp|hp
    ·have:=hi.lo.1 i hp;omega
    ·rw[hp];simp) (fun i hp=>by
    rcases hp with hp|hp
    ·exact hi.off hp
    ·exact hi.new (by omega))
 refine W_for (σ:=ES) (M:=(mskOf (pol1.mask 20) (pol1.gc 20) (pol1.acts 20) H.length 5)) rfl (fun x=>(⟨29,[(17,I x.n),(16,I (xs.length+1:Nat)),(6,.ms H.length 1 (xs.length+1) 0 (xs.length+1)),(1,.sl false (xs.map I)),(0,.rf D 1 0 0)],x.H⟩:St))
  (fun x=>x.n≤xs.length+1∧DI ins first size (fun i=>P i∨i=H.length) D C x.a (endsC ins size first xs c x.n) x.H∧x.H[H.length]?=some (.row 1 (((endsL ins first xs).take x.n++List.replicate (xs.length+1 - x.n) 0).map I) 0)∧KeepsLow P H x.H)
  (fun x=>xs.length+1 - x.n) ⟨0,H++[MB.row 1 (List.replicate (xs.length+1) (I 0)) 0],a⟩ ?_ ⟨Nat.zero_le _,hi1,by simp,⟨by simp,fun i hp=>List.getElem?_append_left (hi.lo.1 i hp)⟩⟩ _ ?_
 ·rintro⟨n,H1,a1⟩ ⟨q1,q2,q3,q4⟩
  simp only at q1 q2 q3 q4 ⊢
  have hmd1:=endsC_made ins size first xs c n
  have hmul:n * (xs.length+1)≤65537 * 65537:=Nat.mul_le_mul (by omega) (by omega)
  by_cases hn:n < xs.length+1
  ·obtain⟨_,⟨H2,a2,rfl,d2,le2,low2⟩,hc⟩:=kf31 q2 ho hf1 hf2 xs (by omega) n (by omega) (by omega)
   have hE:H2[H.length]?=_:=(low2.2 H.length (.inr rfl)).trans q3
   have hat:=endsL_at ins first xs hn
   have h1:=fill_at hel hn
   have h2:=fill_set hel hn hat
   have h3:=fill_len hel (n:=n) (by omega)
   have h1':(((endsL ins first xs).take n++List.replicate (xs.length+1 - n) 0).map I)[n]?=some (I 0):=by rw[List.getElem?_map,h1];rfl
   have h2':(((endsL ins first xs).take n++List.replicate (xs.length+1 - n) 0).map I).set n (I (runL ins (xs.drop n) n first (-1)))=((endsL ins first xs).take (n+1)++List.replicate (xs.length+1 - (n+1)) 0).map I:=by rw[← h2,List.map_set]
   have h3':(((endsL ins first xs).take n++List.replicate (xs.length+1 - n) 0).map I).length=xs.length+1:=by rw[List.length_map,h3]
   generalize ((endsL ins first xs).take n++List.replicate (xs.length+1 - n) 0).map I=E at *
   have hlt:=(List.getElem?_eq_some_iff.1 hE).1
   simp +contextual (disch:=omega) only[Tryz.f20,dd20,go_sem,↓reduceIte,List.reduceReplicate,Nat.reduceAdd,Nat.reduceSub,reduceCtorEq,Nat.reduceLeDiff,Nat.reduceMul,Nat.reduceLT,Nat.reduceEqDiff,Int.reduceBNe,Int.reduceBEq,Int.reduceEq,Int.reduceLT,Int.reduceLE,Int.reduceGT,Int.reduceGE,mu20,Nat.reduceBEq,↓wrap_up,↓wrap_down,↓wrap_pred,↓wrap_sub_nat,Int.reduceToNat,hc,hE,h1',h2',h3']
   refine⟨⟨n+1,H2.set H.length (.row 1 (((endsL ins first xs).take (n+1)++List.replicate (xs.length+1 - (n+1)) 0).map I) 0),a2⟩,⟨by show n+1≤_;omega,d2.frame (by simp) (fun i hp hi=>List.getElem?_set_ne (fun e=>hp (.inr e.symm))),List.getElem?_set_self hlt,⟨by rw[List.length_set];exact Nat.le_trans q4.1 low2.1,fun i hp=>?_⟩⟩,by show xs.length+1 - (n+1) < xs.length+1 - n;omega,rfl⟩
   rw[List.getElem?_set_ne (by have:=hi.lo.1 i hp;omega),low2.2 i (.inl hp)]
   exact q4.2 i hp
  ·obtain rfl:n=xs.length+1:=by omega
   rw[List.take_of_length_le (by omega),Nat.sub_self,List.replicate_zero,List.append_nil]at q3
   have hlt:=(List.getElem?_eq_some_iff.1 q3).1
   have hrow:getRow H1 H.length=some (1,(endsL ins first xs).map I,0):=by unfold getRow;rw[q3]
   have hfz:=fz_row (tot:=xs.length+1) hrow (by rw[List.length_map];exact hel) (plain_ints _)
   have hm:mark H1 H.length (xs.length+1)=H1.set H.length (.row 1 ((endsL ins first xs).map I) (xs.length+1)):=by
    unfold mark;rw[hrow];simp
   rw[hm]at hfz
   simp +contextual (disch:=omega) only[Tryz.f20,dd20,go_sem,↓reduceIte,List.reduceReplicate,Nat.reduceAdd,Nat.reduceSub,reduceCtorEq,Nat.reduceLeDiff,Nat.reduceMul,Nat.reduceLT,Nat.reduceEqDiff,Int.reduceBNe,Int.reduceBEq,Int.reduceEq,Int.reduceLT,Int.reduceLE,Int.reduceGT,Int.reduceGE,List.length_append,List.map_append,mu20,Nat.reduceBEq,↓wrap_up,↓wrap_down,↓wrap_pred,↓wrap_sub_nat,Int.reduceToNat,hfz]
   refine⟨_,⟨H1.set H.length (.row 1 ((endsL ins first xs).map I) (xs.length+1)),a1,rfl,?_,⟨by rw[List.length_set];exact q4.1,fun i hp=>?_⟩⟩,rp _ _ _⟩
   ·have d3:=q2.frame (H':=H1.set H.length (.row 1 ((endsL ins first xs).map I) (xs.length+1))) (by simp) (fun i hp hi=>List.getElem?_set_ne (fun e=>hp (.inr e.symm)))
    exact d3.repro (fun i hp=>d3.lo.1 i (.inl hp)) (fun i hp=>d3.off (.inl hp))
   ·rw[List.getElem?_set_ne (by have:=hi.lo.1 i hp;omega)]
    exact q4.2 i hp
 ·simp only[List.take_zero,List.nil_append,Nat.sub_zero,List.map_replicate]
  rfl
end
section
attribute [local go_sem] evAppend List.length_append List.map_append
open Go.Proofs Go.RowKit Go.IntWalk
set_option maxRecDepth 100000
set_option maxHeartbeats 4000000
def seqR (ins:List Ins):List Int→List Nat→List (List Nat)
 | [],_=>[]
 | x::xs,l=>if l=[] then [] else nextL ins l x::seqR ins xs (nextL ins l x)
def needs (size:Nat) (c:CS) (S:List (List Nat)):CS:=S.foldl (fun c s=>c.need size s) c
theorem runC_seq (ins:List Ins) (size:Nat):∀(xs:List Int) (l:List Nat) (c:CS),runC ins size xs l c=needs size c (seqR ins xs l)
 | [],l,c=>by
   by_cases h:l=[]
   ·subst h;rw[runC_nil];rfl
   ·simp[runC,h,seqR,needs]
 | x::xs,l,c=>by
   by_cases h:l=[]
   ·subst h;rw[runC_nil];simp[seqR,needs]
   ·simp only[runC,if_neg h,seqR]
    rw[runC_seq ins size xs]
    rfl
def seqE (ins:List Ins) (first:List Nat) (xs:List Int):Nat→List (List Nat)
 | 0=>[]
 | n+1=>seqE ins first xs n++first::seqR ins (xs.drop n) first
theorem endsC_seq (ins:List Ins) (size:Nat) (first:List Nat) (xs:List Int) (c:CS):∀ n,endsC ins size first xs c n=needs size c (seqE ins first xs n)
 | 0=>rfl
 | n+1=>by
   simp only[endsC,seqE]
   rw[runC_seq,endsC_seq ins size first xs c n]
   unfold needs
   rw[List.foldl_append]
   rfl
structure FullI (R:List (List Nat)) (c:CS):Prop where
 nodup:c.L.Nodup
 sub:∀ l∈c.L,l∈R
 made:c.made=c.L.length
 emp:c.emptied=0
theorem sub_len {R L:List (List Nat)} (h:L.Nodup) (hs:∀ l∈L,l∈R):L.length≤R.length:=List.Nodup.length_le_of_subset h hs
theorem FullI.need {R:List (List Nat)} {c:CS} (h:FullI R c) {s:List Nat} (hs:s=[]∨s∈R):FullI R (c.need R.length s)∧((c.need R.length s).L=if s=[]∨s∈c.L then c.L else c.L++[s]):=by
 unfold CS.need
 by_cases h0:s=[]
 ·rw[if_pos h0,if_pos (.inl h0)];exact⟨h,rfl⟩
 by_cases h1:s∈c.L
 ·rw[if_neg h0,if_pos h1,if_pos (.inr h1)];exact⟨h,rfl⟩
 have hR:s∈R:=hs.resolve_left h0
 have hnd:(c.L++[s]).Nodup:=List.nodup_append.2 ⟨h.nodup,by simp,fun a ha b hb e=>h1 (by rw[← List.mem_singleton.1 hb,← e];exact ha)⟩
 have hsub:∀ l∈c.L++[s],l∈R:=fun l hl=>by
  rcases List.mem_append.1 hl with h2|h2
  ·exact h.sub l h2
  ·rw[List.mem_singleton.1 h2];exact hR
 have hlen:=sub_len hnd hsub
 rw[List.length_append,List.length_singleton]at hlen
 rw[if_neg h0,if_neg h1,if_neg (show ¬ c.L.length=R.length by omega),if_neg (show ¬ (s=[]∨s∈c.L) by rintro(h2|h2);exact h0 h2;exact h1 h2)]
 exact⟨⟨hnd,hsub,by simp[h.made],h.emp⟩,rfl⟩
structure Three (R:List (List Nat)) (f s o:CS):Prop where
 full:FullI R f
 sub:∀ l∈s.L,l∈f.L
 le:f.made≤s.made
 one:o.L.length≤1
 last:∀ l∈o.L,l∈s.L
 le2:s.made≤o.made
 emp:o.emptied+o.L.length=o.made
 ne:o.L=[]→o.made=0
theorem Three.zero (R:List (List Nat)):Three R ⟨[],0,0⟩ ⟨[],0,0⟩ ⟨[],0,0⟩:=
 ⟨⟨.nil,fun _ h=>(by cases h),rfl,rfl⟩,fun _ h=>(by cases h),Nat.le_refl _,by simp,fun _ h=>(by cases h),Nat.le_refl _,rfl,fun _=>rfl⟩
theorem Three.need {R:List (List Nat)} {f s o:CS} (h:Three R f s o) {k:Nat} {l:List Nat} (hl:l=[]∨l∈R):Three R (f.need R.length l) (s.need k l) (o.need 1 l):=by
 obtain⟨f1,f2⟩:=h.full.need hl
 by_cases h0:l=[]
 ·subst h0
  have e:∀(c:CS) n,c.need n []=c:=fun c n=>by simp[CS.need]
  rw[e,e,e];exact h
 have hs:(s.need k l).L=s.L∧l∈s.L∧(s.need k l).made=s.made∨l ∉ s.L∧((s.need k l).L=[l]∨(s.need k l).L=s.L++[l])∧(s.need k l).made=s.made+1:=by
  unfold CS.need
  rw[if_neg h0]
  by_cases h1:l∈s.L
  ·rw[if_pos h1];exact .inl ⟨rfl,h1,rfl⟩
  ·rw[if_neg h1]
   split
   ·exact .inr ⟨h1,.inl rfl,rfl⟩
   ·exact .inr ⟨h1,.inr rfl,rfl⟩
 have ho:(o.need 1 l)=o∧l∈o.L∨l ∉ o.L∧(o.need 1 l).L=[l]∧(o.need 1 l).made=o.made+1∧(o.need 1 l).emptied=o.emptied+o.L.length:=by
  unfold CS.need
  rw[if_neg h0]
  by_cases h1:l∈o.L
  ·rw[if_pos h1];exact .inl ⟨rfl,h1⟩
  ·rw[if_neg h1]
   have:=h.one
   split
   ·rename_i h2;exact .inr ⟨h1,rfl,rfl,by simp[h2]⟩
   ·have h3:o.L=[]:=List.length_eq_zero_iff.1 (by omega)
    exact .inr ⟨h1,by simp[h3],rfl,by simp[h3]⟩
 have hfm:=f1.made
 have hfL:=f2
 have hfm0:=h.full.made
 have hle:=h.le
 have hle2:=h.le2
 have hemp:=h.emp
 have hin:l∈(f.need R.length l).L:=by
  rw[hfL];split
  ·rename_i h1;exact h1.resolve_left h0
  ·simp
 have hmono:∀ a∈f.L,a∈(f.need R.length l).L:=fun a ha=>by
  rw[hfL];split
  ·exact ha
  ·exact List.mem_append_left _ ha
 refine⟨f1,fun a ha=>?_,?_,?_,fun a ha=>?_,?_,?_,fun hz=>?_⟩
 ·rcases hs with ⟨e,_,_⟩|⟨_,e|e,_⟩
  ·rw[e]at ha;exact hmono a (h.sub a ha)
  ·rw[e]at ha;rw[List.mem_singleton.1 ha];exact hin
  ·rw[e]at ha
   rcases List.mem_append.1 ha with h1|h1
   ·exact hmono a (h.sub a h1)
   ·rw[List.mem_singleton.1 h1];exact hin
 ·rw[hfm,hfL]
  rcases hs with ⟨_,h1,e⟩|⟨h1,_,e⟩
  ·rw[e,if_pos (.inr (h.sub l h1))];omega
  ·rw[e]
   split
   ·omega
   ·simp;omega
 ·rcases ho with ⟨e,_⟩|⟨_,e,_,_⟩
  ·rw[e];exact h.one
  ·rw[e];simp
 ·rcases ho with ⟨e,h1⟩|⟨_,e,_,_⟩
  ·rw[e]at ha
   have h2:=h.last a ha
   rcases hs with ⟨e2,_,_⟩|⟨h3,_,_⟩
   ·rw[e2];exact h2
   ·exact absurd (h.last l h1) h3
  ·rw[e]at ha
   rw[List.mem_singleton.1 ha]
   rcases hs with ⟨e2,h3,_⟩|⟨_,e2|e2,_⟩
   ·rw[e2];exact h3
   ·rw[e2];simp
   ·rw[e2];simp
 ·rcases ho with ⟨e,h1⟩|⟨_,_,e,_⟩
  ·rw[e]
   rcases hs with ⟨_,_,e2⟩|⟨h3,_,_⟩
   ·rw[e2];exact hle2
   ·exact absurd (h.last l h1) h3
  ·rw[e]
   rcases hs with ⟨_,_,e2⟩|⟨_,_,e2⟩<;>rw[e2]<;>omega
 ·rcases ho with ⟨e,_⟩|⟨_,e1,e2,e3⟩
  ·rw[e];exact hemp
  ·rw[e1,e2,e3];simp;omega
 ·rcases ho with ⟨e,_⟩|⟨_,e1,_,_⟩
  ·rw[e]at hz ⊢;exact h.ne hz
  ·rw[e1]at hz;cases hz
theorem Three.needs {R:List (List Nat)} {k:Nat}:∀ {S:List (List Nat)} {f s o:CS},Three R f s o→(∀ l∈S,l=[]∨l∈R)→Three R (needs R.length f S) (Ev.needs k s S) (Ev.needs 1 o S)
 | [],f,s,o,h,_=>h
 | l::S,f,s,o,h,hS=>Three.needs (S:=S) (h.need (hS l (by simp))) (fun a ha=>hS a (by simp[ha]))
theorem FullI.keeps {R:List (List Nat)}:∀ {S:List (List Nat)} {c:CS},FullI R c→(∀ l∈S,l=[]∨l∈R)→(∀ l∈c.L,l∈(Ev.needs R.length c S).L)∧∀ l∈S,l≠[]→l∈(Ev.needs R.length c S).L
 | [],c,h,_=>⟨fun l hl=>hl,fun l hl=>by cases hl⟩
 | a::S,c,h,hS=>by
   obtain⟨h1,h2⟩:=h.need (hS a (by simp))
   obtain⟨k1,k2⟩:=FullI.keeps (S:=S) h1 (fun l hl=>hS l (by simp[hl]))
   have hk:∀ l∈c.L,l∈(c.need R.length a).L:=fun l hl=>by
    rw[h2];split
    ·exact hl
    ·exact List.mem_append_left _ hl
   refine⟨fun l hl=>k1 l (hk l hl),fun l hl h0=>?_⟩
   rcases List.mem_cons.1 hl with rfl|hl
   ·refine k1 l ?_
    rw[h2];split
    ·rename_i h3;exact h3.resolve_left h0
    ·simp
   ·exact k2 l hl h0
theorem meetL_has (L:List (List Nat)) (s:List Nat):s=[]∨s∈meetL L s:=by
 unfold meetL
 by_cases h:s=[]
 ·exact .inl h
 ·by_cases h2:s∈L
  ·rw[if_pos (.inr h2)];exact .inr h2
  ·rw[if_neg (by rintro(h3|h3);exact h h3;exact h2 h3)];exact .inr (by simp)
theorem rowL_has (ins:List Ins) (l:List Nat):∀ {reps:List Int} {L:List (List Nat)},∀ x∈reps,nextL ins l x=[]∨nextL ins l x∈rowL ins l reps L
 | [],L,x,h=>by cases h
 | y::reps,L,x,h=>by
   rcases List.mem_cons.1 h with rfl|h
   ·rcases meetL_has L (nextL ins l x) with h1|h1
    ·exact .inl h1
    ·obtain⟨k,hk⟩:=rowL_pre ins l reps (meetL L (nextL ins l x))
     exact .inr (by show _∈rowL ins l reps (meetL L (nextL ins l x));rw[hk];exact List.mem_append_left _ h1)
   ·exact rowL_has ins l (reps:=reps) x h
theorem explore_pre (ins:List Ins) (reps:List Int):∀(f i:Nat) (L:List (List Nat)),∃ k,explore ins reps f i L=L++k
 | 0,i,L=>⟨[],by simp[explore]⟩
 | f+1,i,L=>by
   simp only[explore]
   split
   ·cases L[i]? with
    | none=>exact⟨[],by simp⟩
    | some l=>
      obtain⟨k1,h1⟩:=rowL_pre ins l reps L
      obtain⟨k2,h2⟩:=explore_pre ins reps f (i+1) (rowL ins l reps L)
      exact⟨k1++k2,by simp only;rw[h2,h1,List.append_assoc]⟩
   ·exact⟨[],by simp⟩
theorem explore_closed (ins:List Ins) (reps:List Int):∀(f i:Nat) (L:List (List Nat)),(explore ins reps f i L).length≤1024→1025≤f+i→(∀ k l,k < i→L[k]?=some l→∀ x∈reps,nextL ins l x=[]∨nextL ins l x∈L) →
  ∀ l∈explore ins reps f i L,∀ x∈reps,nextL ins l x=[]∨nextL ins l x∈explore ins reps f i L
 | 0,i,L,h,hf,hP,l,hl,x,hx=>by
   simp only[explore]at h hl ⊢
   obtain⟨k,hk⟩:=List.getElem?_of_mem hl
   exact hP k l (by have:=(List.getElem?_eq_some_iff.1 hk).1;omega) hk x hx
 | f+1,i,L,h,hf,hP,l,hl,x,hx=>by
   simp only[explore]at h hl ⊢
   by_cases hc:i < L.length∧L.length < 1025
   ·rw[if_pos hc]at h hl ⊢
    rw[List.getElem?_eq_getElem hc.1]at h hl ⊢
    simp only at h hl ⊢
    refine explore_closed ins reps f (i+1) (rowL ins L[i] reps L) h (by omega) (fun k l' hk hl' y hy=>?_) l hl x hx
    obtain⟨m,hm⟩:=rowL_pre ins L[i] reps L
    rcases Nat.lt_succ_iff_lt_or_eq.1 hk with h1|rfl
    ·rw[hm,List.getElem?_append_left (by omega)]at hl'
     rcases hP k l' h1 hl' y hy with h2|h2
     ·exact .inl h2
     ·exact .inr (by rw[hm];exact List.mem_append_left _ h2)
    ·rw[hm,List.getElem?_append_left hc.1,List.getElem?_eq_getElem hc.1]at hl'
     rw[← Option.some.inj hl']
     exact rowL_has ins _ y hy
   ·rw[if_neg hc]at h hl ⊢
    obtain⟨k,hk⟩:=List.getElem?_of_mem hl
    exact hP k l (by have:=(List.getElem?_eq_some_iff.1 hk).1;omega) hk x hx
theorem states_closed {ins:List Ins} {reps:List Int} {L:List (List Nat)} (h:(statesFrom ins reps 0 L).length≤1024):∀ l∈statesFrom ins reps 0 L,∀ x∈reps,nextL ins l x=[]∨nextL ins l x∈statesFrom ins reps 0 L:=
 explore_closed ins reps 1025 0 L h (by omega) (fun k l hk=>by omega)
theorem col_piece {L:List Spans} {E:List Int} {top x:Int} (hs:∀ s∈L,SetV s) (he:EndsOk top E) (hm:∀ y,y∈E↔y=0∨∃ s∈L,∃ p∈s,(y=p.1∨y=p.2+1)∧y≤top) {k:Nat} (hk:k < E.length) (h1:lastP E top k≤x) (h2:x < lastP E top (k+1)) :
  colA L x=colK L E top k:=by
 have st:=he.step hk
 have up:∀ y∈E,lastP E top k < y→lastP E top (k+1)≤y:=fun y hy hlt=>by
  obtain⟨j,hj⟩:=List.getElem?_of_mem hy
  have hjl:=(List.getElem?_eq_some_iff.1 hj).1
  have hjy:lastP E top j=y:=lastP_of hj
  rcases Nat.lt_or_ge k j with h3|h3
  ·rcases Nat.lt_or_eq_of_le (show k+1≤j by omega) with h4|h4
   ·have:=he.mono h4 (by omega);omega
   ·rw[h4,hjy];exact Int.le_refl _
  ·rcases Nat.lt_or_eq_of_le h3 with h4|h4
   ·have:=he.mono h4 (by omega);omega
   ·rw[h4]at hjy;omega
 unfold colK colA
 refine List.map_congr_left fun s hs'=>?_
 unfold hasSpan
 rw[Bool.eq_iff_iff,List.any_eq_true,List.any_eq_true]
 have key:∀ p∈s,((p.1≤x∧x≤p.2)↔(p.1≤lastP E top k∧lastP E top k≤p.2)):=fun p hp=>by
  have hg:=(hs s hs').good p hp
  have a1:p.1≤top→p.1∈E:=fun h=>(hm p.1).2 (.inr ⟨s,hs',p,hp,.inl rfl,h⟩)
  have a2:p.2+1≤top→p.2+1∈E:=fun h=>(hm (p.2+1)).2 (.inr ⟨s,hs',p,hp,.inr rfl,h⟩)
  constructor
  ·rintro⟨b1,b2⟩
   refine⟨?_,by omega⟩
   rcases Int.lt_or_le (lastP E top k) p.1 with h3|h3
   ·have:=up p.1 (a1 (by omega)) h3;omega
   ·exact h3
  ·rintro⟨b1,b2⟩
   refine⟨by omega,?_⟩
   rcases Int.lt_or_le p.2 x with h3|h3
   ·have:=up (p.2+1) (a2 (by omega)) (by omega);omega
   ·exact h3
 constructor
 ·rintro⟨p,hp,h3⟩
  exact⟨p,hp,by have:=(key p hp).1 (by simpa using h3);simpa using this⟩
 ·rintro⟨p,hp,h3⟩
  exact⟨p,hp,by have:=(key p hp).2 (by simpa using h3);simpa using this⟩
theorem find_piece {E:List Int} {top x:Int} (he:EndsOk top E) (h0:0≤x) (h1:x≤top):∃ k,k < E.length∧lastP E top k≤x∧x < lastP E top (k+1):=by
 have key:∀ n,n≤E.length→x < lastP E top n→∃ k,k < n∧lastP E top k≤x∧x < lastP E top (k+1):=by
  intro n
  induction n with
  | zero=>
    intro _ h
    rw[lastP_of he.first]at h;omega
  | succ n ih=>
    intro hn h
    rcases Int.lt_or_le x (lastP E top n) with h2|h2
    ·obtain⟨k,a,b⟩:=ih (by omega) h2
     exact⟨k,by omega,b⟩
    ·exact⟨n,by omega,h2,h⟩
 exact key E.length (Nat.le_refl _) (by rw[lastP_end (Nat.le_refl _)];omega)
theorem addI_head (O:Spans) (p:Int×Int) (h:O≠[]):((addI O p).headD (0,0)).1=(O.headD (0,0)).1:=by
 rcases List.eq_nil_or_concat O with e|⟨O',q,e⟩
 ·exact absurd e h
 ·rw[List.concat_eq_append]at e
  subst e
  rw[addI_snoc]
  cases O' with
  | nil=>split<;>rfl
  | cons a O'=>split<;>rfl
theorem cls_head {col:Nat→List Bool} {pc:Nat→Int×Int} {c:List Bool}:∀ {n:Nat},c∈firsts col n→∃ j,j < n∧col j=c∧((clsOf col pc c n).headD (0,0)).1=(pc j).1
 | 0,h=>by simp[firsts]at h
 | n+1,h=>by
   by_cases h1:c∈firsts col n
   ·obtain⟨j,a,b,e⟩:=cls_head (pc:=pc) h1
    refine⟨j,by omega,b,?_⟩
    have hne:clsOf col pc c n≠[]:=List.length_pos_iff.1 (clsOf_pos h1)
    simp only[clsOf]
    split
    ·rw[addI_head _ _ hne];exact e
    ·exact e
   ·have h2:col n=c:=by
     obtain⟨k,h3,h4⟩:=firsts_mem.1 h
     rcases Nat.lt_succ_iff_lt_or_eq.1 h3 with h5|rfl
     ·exact absurd (firsts_mem.2 ⟨k,h5,h4⟩) h1
     ·exact h4
    refine⟨n,by omega,h2,?_⟩
    simp only[clsOf,if_pos h2,clsOf_nil h1,addI_nil]
    rfl
theorem rep_of {L:List Spans} {top x:Int} {cls:List Spans} (h0:0≤top) (hs:∀ s∈L,SetV s) (hc:splitA L (endsR L top) top=some cls) (hx:0≤x∧x≤top):∃ r∈repsA cls,colA L x=colA L r:=by
 have he:=endsR_ok h0 hs
 have hm:=fun y=>endsR_mem (top:=top) h0 hs (x:=y)
 obtain⟨k,hk,h1,h2⟩:=find_piece he hx.1 hx.2
 have e1:=col_piece hs he hm hk h1 h2
 have hf:colK L (endsR L top) top k∈firsts (colK L (endsR L top) top) (endsR L top).length:=firsts_mem.2 ⟨k,hk,rfl⟩
 obtain⟨j,hj,hj2,hj3⟩:=cls_head (pc:=pieceA (endsR L top) top) hf
 have hcl:cls=classesA (colK L (endsR L top) top) (pieceA (endsR L top) top) (endsR L top).length:=by
  unfold splitA at hc
  split at hc
  ·cases hc
  ·exact(Option.some.inj hc).symm
 refine⟨(pieceA (endsR L top) top j).1,?_,?_⟩
 ·rw[hcl]
  unfold repsA classesA
  rw[List.map_map]
  exact List.mem_map.2 ⟨_,hf,hj3⟩
 ·rw[e1,← hj2];rfl
theorem after_alike {ins:List Ins} {l:List Nat} {x y:Int} (h:colA (readG ins) x=colA (readG ins) y):afterL ins l x=afterL ins l y:=by
 unfold afterL
 congr 1
 funext n
 cases hn:ins[n]? with
 | none=>rfl
 | some i=>
   simp only
   by_cases h1:i.op=1
   ·have hm:i.set∈readG ins:=List.mem_map.2 ⟨i,List.mem_filter.2 ⟨List.mem_of_getElem? hn,by simp[h1]⟩,rfl⟩
    have:hasSpan i.set x=hasSpan i.set y:=by
     unfold colA at h
     exact List.map_inj_left.1 h i.set hm
    rw[this]
   ·simp[h1]
theorem seqR_in {ins:List Ins} {R:List (List Nat)} {top:Int} {reps:List Int} (hcl:∀ l∈R,∀ x∈reps,nextL ins l x=[]∨nextL ins l x∈R) (hrep:∀ x,0≤x∧x≤top→∃ r∈reps,colA (readG ins) x=colA (readG ins) r) :
  ∀ {xs:List Int} {l:List Nat},(∀ x∈xs,0≤x∧x≤top)→(l=[]∨l∈R)→∀ s∈seqR ins xs l,s=[]∨s∈R
 | [],l,_,_,s,hs=>by simp[seqR]at hs
 | x::xs,l,hx,hl,s,hs=>by
   simp only[seqR]at hs
   split at hs
   ·cases hs
   ·rename_i h0
    have hR:=hl.resolve_left h0
    obtain⟨r,hr,e⟩:=hrep x (hx x (by simp))
    have hn:nextL ins l x=[]∨nextL ins l x∈R:=by
     rw[show nextL ins l x=nextL ins l r by unfold nextL;rw[after_alike e]]
     exact hcl l hR r hr
    rcases List.mem_cons.1 hs with rfl|hs
    ·exact hn
    ·exact seqR_in hcl hrep (xs:=xs) (fun y hy=>hx y (by simp[hy])) hn s hs
theorem seqE_in {ins:List Ins} {R:List (List Nat)} {top:Int} {reps:List Int} {first:List Nat} (hcl:∀ l∈R,∀ x∈reps,nextL ins l x=[]∨nextL ins l x∈R) (hrep:∀ x,0≤x∧x≤top→∃ r∈reps,colA (readG ins) x=colA (readG ins) r)
  (hf:first=[]∨first∈R) {xs:List Int} (hx:∀ x∈xs,0≤x∧x≤top):∀ n,∀ s∈seqE ins first xs n,s=[]∨s∈R
 | 0,s,hs=>by simp[seqE]at hs
 | n+1,s,hs=>by
   simp only[seqE]at hs
   rcases List.mem_append.1 hs with h|h
   ·exact seqE_in hcl hrep hf hx n s h
   ·rcases List.mem_cons.1 h with rfl|h
    ·exact hf
    ·exact seqR_in hcl hrep (fun y hy=>hx y (List.mem_of_mem_drop hy)) hf s h
end
section
attribute [local go_sem] List.length_append List.map_append
open Go.Proofs Go.RowKit Go.IntWalk
set_option maxRecDepth 100000
set_option maxHeartbeats 8000000
theorem app_i {H:List MB} {i n:Nat} {rs:List Int} {c:Int} {t:Bool} (hi:getRow H i=some (1,rs.map I,0)) (hn:rs.length=n) (hr:n+1≤4000000000) :
  evAppend Tryz.prog H 22 22 (.ms i 1 n 0 n) (.sl t [I c])=some (.ms i 1 (n+1) 0 (n+1),H.set i (.row 1 ((rs++[c]).map I) 0)):=by
 have hs:srcElems Tryz.prog H 3 (.sl t [I c])=some [I c]:=rfl
 rw[evAppend_end (e:=3) (by kernel_rfl) (by kernel_rfl) (k:=1) (by kernel_rfl) (by_:=8) (by kernel_rfl) (ze:=I 0) (by kernel_rfl) rfl (by omega) hs rfl hi (by rw[List.length_map];exact hn) (Nat.zero_le _) (room_ok (by simpa using hr) (by omega))]
 rw[List.map_append]
 rfl
def ktextT:List Int:=[97,97,97,98,98,99,97,98,10,32,65,200]
def textAt (l:List Int) (i:Nat):Int:=ktextT.getD (pickI l i 12).toNat 0
def textN (l:List Int) (n:Nat):List Int:=(List.range n).map (textAt l)
theorem textN_snoc (l:List Int) (n:Nat):textN l (n+1)=textN l n++[textAt l n]:=by simp[textN,List.range_succ]
theorem textN_len (l:List Int) (n:Nat):(textN l n).length=n:=by simp[textN]
def textI (l:List Int) (most:Nat):List Int:=textN l (min l.length most)
theorem textAt_in (l:List Int) (i:Nat):0≤textAt l i∧textAt l i≤200:=by
 have hp:=pick_lt (l:=l) (i:=i) (m:=12) (by omega)
 unfold textAt
 generalize pickI l i 12=p at *
 obtain⟨n,rfl⟩:∃ n:Nat,p=n:=⟨p.toNat,by omega⟩
 simp only[Int.toNat_natCast]
 have hn:n < 12:=by omega
 have h12:∀ n,n < 12→0≤ktextT.getD n 0∧ktextT.getD n 0≤200:=by decide
 exact h12 n hn
theorem textI_in (l:List Int) (most:Nat):∀ x∈textI l most,0≤x∧x≤200:=by
 intro x hx
 simp only[textI,textN,List.mem_map]at hx
 obtain⟨i,_,rfl⟩:=hx
 exact textAt_in l i
theorem kf17t (l:List Int) (hl:∀ x∈l,In64 x) (most:Nat) (hm:most≤1000000) (H:List MB):call Tryz.prog pol1 19 [.sl false (l.map I),I most] H=some (.sl false ((textI l most).map I),H):=by
 have hpl:=plain_ints l
 refine call_run Tryz.func19 rfl rfl rfl rfl rfl rfl (fun _=>rfl) (by simp[AV.plain,AV.plainL,hpl]) (by simp[AV.plain,plain_ints]) ?_ H
 have hP:=fun i=>f57 l i 12 hl (by omega)
 simp +contextual (disch:=omega) only[Tryz.f19,dd19,go_sem,simprocAttr,evAppend,mu19,↓wrap_up,↓wrap_down,↓wrap_pred,↓wrap_sub_nat]
 refine W_count (M:=(mskOf (pol1.mask 19) (pol1.gc 19) (pol1.acts 19) 0 3)) rfl (min l.length most) (fun i=>(⟨28,[(6,I i),(5,.ms 0 1 i 0 i),(1,I most),(0,.sl false (l.map I))],[.row 1 ((textN l i).map I) 0]⟩:St)) (fun _=>True) ?_ ?_ trivial _ ?_
 ·intro i hi _
  have h1:i < l.length:=by omega
  have h2:i < most:=by omega
  have hp:=pick_lt (l:=l) (i:=i) (m:=12) (by omega)
  have ht:textAt l i=ktextT.getD (pickI l i 12).toNat 0:=rfl
  have hP:=hP i
  generalize pickI l i 12=p at *
  obtain⟨n,rfl⟩:∃ n:Nat,p=n:=⟨p.toNat,by omega⟩
  have hg:([I 97,I 97,I 97,I 98,I 98,I 99,I 97,I 98,I 10,I 32,I 65,I 200]:List AV)[n]?=some (I (textAt l i)):=by
   rw[ht,Int.toNat_natCast]
   have h12:∀ n,n < 12→ktextT[n]?=some (ktextT.getD n 0):=by decide
   have e:([I 97,I 97,I 97,I 98,I 98,I 99,I 97,I 98,I 10,I 32,I 65,I 200]:List AV)=ktextT.map I:=rfl
   rw[e,List.getElem?_map,h12 n (by omega)];rfl
  have happ:=fun(K:List MB) (t:Bool)=>app_i (H:=.row 1 ((textN l i).map I) 0::K) (i:=0) (c:=textAt l i) (t:=t) rfl (textN_len l i) (by omega)
  simp +contextual (disch:=omega) only[Tryz.f19,dd19,go_sem,simprocAttr,mu19,↓wrap_up,↓wrap_down,↓wrap_pred,↓wrap_sub_nat,hP,hg,happ]
  rw[textN_snoc]
  exact(by first|rfl|(refine prep_to (n:=1) (m:=⟨some [6,5,1,0],some 1,[]⟩) rfl rfl ?_ ?_ ?_<;>first|rfl|(simp[keepT,AV.underL,AV.under,MB.under,underL_plain,under_plain,underL_append,plain_ints,plain_span,plain_ins,plain_prg,-List.map_take,-List.map_replicate,-List.map_set];done)|(simp[keepT,AV.underL,AV.under,MB.under,underL_plain,under_plain,underL_append,plain_ints,plain_span,plain_ins,plain_prg,-List.map_take,-List.map_replicate,-List.map_set];omega)))
 ·intro _
  have hx:(min l.length most=l.length∨min l.length most=most)∧min l.length most≤l.length:=by omega
  have hlen:=textN_len l (min l.length most)
  unfold textI
  generalize min l.length most=m at *
  by_cases h1:m < l.length
  ·have h2:m=most:=by omega
   subst h2
   simp +contextual (disch:=omega) only[Tryz.f19,dd19,go_sem,simprocAttr,evAppend,mu19,↓wrap_up,↓wrap_down,↓wrap_pred,↓wrap_sub_nat]
   exact⟨_,fz_row (k:=1) rfl (by simpa using hlen) (plain_ints _)⟩
  ·have h2:m=l.length:=by omega
   subst h2
   simp +contextual (disch:=omega) only[Tryz.f19,dd19,go_sem,simprocAttr,evAppend,mu19,↓wrap_up,↓wrap_down,↓wrap_pred,↓wrap_sub_nat]
   exact⟨_,fz_row (k:=1) rfl (by simpa using hlen) (plain_ints _)⟩
 ·exact(by first|rfl|(refine prep_to (n:=1) (m:=⟨some [6,5,1,0],some 1,[]⟩) rfl rfl ?_ ?_ ?_<;>first|rfl|(simp[keepT,AV.underL,AV.under,MB.under,underL_plain,under_plain,underL_append,plain_ints,plain_span,plain_ins,plain_prg,-List.map_take,-List.map_replicate,-List.map_set];done)|(simp[keepT,AV.underL,AV.under,MB.under,underL_plain,under_plain,underL_append,plain_ints,plain_span,plain_ins,plain_prg,-List.map_take,-List.map_replicate,-List.map_set];omega)))
end
section
attribute [local go_sem] evAppend List.length_append List.map_append
open Go.Proofs Go.RowKit Go.IntWalk
set_option maxRecDepth 100000
set_option maxHeartbeats 4000000
theorem f102 (r:Bool) (H:List MB):call Tryz.prog pol1 80 [.bool r] H=some (I (if r then 1114111 else 255),H):=by
 cases r
 ·refine call_run Tryz.func80 rfl rfl rfl rfl rfl rfl (fun _=>rfl) (by simp[AV.plain,AV.plainL,plain_ints,plain_span,plain_ins,plain_prg]) (by simp[AV.plain,AV.plainL,plain_ints,plain_span,plain_ins,plain_prg]) ?_ H
  simp +contextual (disch:=omega) only[Tryz.f80,dd80,go_sem,simprocAttr,mu80,↓wrap_up,↓wrap_down,↓wrap_pred,↓wrap_sub_nat]
  exact fzEq rfl rfl
 ·refine call_run Tryz.func80 rfl rfl rfl rfl rfl rfl (fun _=>rfl) (by simp[AV.plain,AV.plainL,plain_ints,plain_span,plain_ins,plain_prg]) (by simp[AV.plain,AV.plainL,plain_ints,plain_span,plain_ins,plain_prg]) ?_ H
  simp +contextual (disch:=omega) only[Tryz.f80,dd80,go_sem,simprocAttr,mu80,↓wrap_up,↓wrap_down,↓wrap_pred,↓wrap_sub_nat]
  exact fzEq rfl rfl
theorem badS_lt {l:List (Int×Int)} {top:Int} {i:Nat} {p:Int×Int} (hp:l[i]?=some p) (h:p.1 < 0∨p.2 < p.1∨top < p.2):badS l top i=true:=by
 simp only[badS,hp]
 rcases h with h|h|h<;>simp[h]
theorem badS_zero {l:List (Int×Int)} {top:Int} {p:Int×Int} (hp:l[0]?=some p) (h:¬ (p.1 < 0∨p.2 < p.1∨top < p.2)):badS l top 0=false:=by
 have h1:¬ p.1 < 0:=fun e=>h (.inl e)
 have h2:¬ p.2 < p.1:=fun e=>h (.inr (.inl e))
 have h3:¬ top < p.2:=fun e=>h (.inr (.inr e))
 simp[badS,hp,h1,h2,h3]
theorem badS_succ {l:List (Int×Int)} {top:Int} {i:Nat} {p q:Int×Int} (hp:l[i+1]?=some p) (hq:l[i]?=some q) (h:¬ (p.1 < 0∨p.2 < p.1∨top < p.2)):badS l top (i+1)=decide (p.1 < q.2+2):=by
 have h1:¬ p.1 < 0:=fun e=>h (.inl e)
 have h2:¬ p.2 < p.1:=fun e=>h (.inr (.inl e))
 have h3:¬ top < p.2:=fun e=>h (.inr (.inr e))
 simp[badS,hp,hq,h1,h2,h3]
theorem badS_hi {l:List (Int×Int)} {top:Int} {i:Nat} {q:Int×Int} (hq:l[i]?=some q) (h:badS l top i=false):0≤q.1∧q.1≤q.2∧q.2≤top:=by
 simp only[badS,hq,Bool.or_eq_false_iff,decide_eq_false_iff_not]at h
 omega
theorem f131 (l:List (Int×Int)) (top:Int) (ht:top≤1114111) (hl:l.length≤1000000) (H:List MB):call Tryz.prog pol1 106 [.sl false (l.map spanAV),I top] H=some (.bool (spansG l top),H):=by
 refine call_run Tryz.func106 rfl rfl rfl rfl rfl rfl (fun _=>rfl) (by simp[AV.plain,AV.plainL,plain_span]) rfl ?_ H
 by_cases h64:64 < l.length
 ·rw[spansG_long h64]
  simp +contextual (disch:=omega) only[Tryz.f106,dd106,go_sem,simprocAttr,mu106,↓wrap_up,↓wrap_down,↓wrap_pred,↓wrap_sub_nat]
  exact fzEq rfl rfl
 ·simp +contextual (disch:=omega) only[Tryz.f106,dd106,go_sem,simprocAttr,mu106,↓wrap_up,↓wrap_down,↓wrap_pred,↓wrap_sub_nat]
  refine W_count (M:=(mskOf (pol1.mask 106) (pol1.gc 106) (pol1.acts 106) 0 4)) rfl l.length (fun i=>(⟨50,[(12,I i),(11,I l.length),(10,.sl false (l.map spanAV)),(1,I top),(0,.sl false (l.map spanAV))],[]⟩:St)) (fun i=>∀ k,k < i→badS l top k=false) ?_ ?_ (fun k h=>by omega) _ (by first|rfl|(refine prep_to (n:=0) (m:=⟨some [12,11,10,1,0],some 0,[]⟩) rfl rfl ?_ ?_ ?_<;>first|rfl|(simp[keepT,AV.underL,AV.under,MB.under,underL_plain,under_plain,underL_append,plain_ints,plain_span,plain_ins,plain_prg,-List.map_take,-List.map_replicate,-List.map_set];done)|(simp[keepT,AV.underL,AV.under,MB.under,underL_plain,under_plain,underL_append,plain_ints,plain_span,plain_ins,plain_prg,-List.map_take,-List.map_replicate,-List.map_set];omega)))
  ·intro i hlt hg
   obtain⟨p,hp⟩:∃ p,l[i]?=some p:=⟨_,List.getElem?_eq_getElem hlt⟩
   have ext:badS l top i=false→∀ k,k < i+1→badS l top k=false:=fun h k hk=>by
    rcases Nat.lt_or_ge k i with h1|h1
    ·exact hg k h1
    ·obtain rfl:k=i:=by omega
     exact h
   by_cases hgd:p.1 < 0∨p.2 < p.1∨top < p.2
   ·rw[spansG_bad hlt (badS_lt hp hgd)]
    have hgd':p.1 < 0∨(¬ p.1 < 0∧p.2 < p.1)∨(¬ p.1 < 0∧¬ p.2 < p.1∧top < p.2):=by omega
    rcases hgd' with h|⟨h,h'⟩|⟨h,h',h''⟩
    all_goals (
     simp +contextual (disch:=omega) only[Tryz.f106,dd106,go_sem,simprocAttr,mu106,↓wrap_up,↓wrap_down,↓wrap_pred,↓wrap_sub_nat,hp,spanAV]
     repeat' (first|intro _|apply And.intro|(unfold dOk;kernel_rfl)|exact St.beq_refl _|(show altO _ _ _ _=true;kernel_rfl)|(show (_ || _)=true;kernel_rfl)|(show (_ && _)=true;kernel_rfl))
     all_goals exact fzEq rfl rfl)
   ·rcases i with _|i
    ·simp +contextual (disch:=omega) only[Tryz.f106,dd106,go_sem,simprocAttr,mu106,↓wrap_up,↓wrap_down,↓wrap_pred,↓wrap_sub_nat,hp,spanAV]
     repeat' (first|intro _|apply And.intro|(unfold dOk;kernel_rfl)|exact St.beq_refl _|(show altO _ _ _ _=true;kernel_rfl)|(show (_ || _)=true;kernel_rfl)|(show (_ && _)=true;kernel_rfl))
     ·exact ext (badS_zero hp hgd) _ ‹_›
     ·exact(by first|rfl|(refine prep_to (n:=0) (m:=⟨some [12,11,10,1,0],some 0,[]⟩) rfl rfl ?_ ?_ ?_<;>first|rfl|(simp[keepT,AV.underL,AV.under,MB.under,underL_plain,under_plain,underL_append,plain_ints,plain_span,plain_ins,plain_prg,-List.map_take,-List.map_replicate,-List.map_set];done)|(simp[keepT,AV.underL,AV.under,MB.under,underL_plain,under_plain,underL_append,plain_ints,plain_span,plain_ins,plain_prg,-List.map_take,-List.map_replicate,-List.map_set];omega)))
    ·obtain⟨q,hq⟩:∃ q,l[i]?=some q:=⟨_,List.getElem?_eq_getElem (by omega)⟩
     have hqb:=badS_hi hq (hg i (by omega))
     have hb:=badS_succ hp hq hgd
     by_cases h2:p.1 < q.2+2
     ·rw[spansG_bad hlt (by rw[hb];simp[h2])]
      simp +contextual (disch:=omega) only[Tryz.f106,dd106,go_sem,simprocAttr,mu106,↓wrap_up,↓wrap_down,↓wrap_pred,↓wrap_sub_nat,hp,hq,spanAV]
      repeat' (first|intro _|apply And.intro|(unfold dOk;kernel_rfl)|exact St.beq_refl _|(show altO _ _ _ _=true;kernel_rfl)|(show (_ || _)=true;kernel_rfl)|(show (_ && _)=true;kernel_rfl))
      all_goals exact fzEq rfl rfl
     ·simp +contextual (disch:=omega) only[Tryz.f106,dd106,go_sem,simprocAttr,mu106,↓wrap_up,↓wrap_down,↓wrap_pred,↓wrap_sub_nat,hp,hq,spanAV]
      repeat' (first|intro _|apply And.intro|(unfold dOk;kernel_rfl)|exact St.beq_refl _|(show altO _ _ _ _=true;kernel_rfl)|(show (_ || _)=true;kernel_rfl)|(show (_ && _)=true;kernel_rfl))
      ·exact ext (by rw[hb];simp[h2]) _ ‹_›
      ·exact(by first|rfl|(refine prep_to (n:=0) (m:=⟨some [12,11,10,1,0],some 0,[]⟩) rfl rfl ?_ ?_ ?_<;>first|rfl|(simp[keepT,AV.underL,AV.under,MB.under,underL_plain,under_plain,underL_append,plain_ints,plain_span,plain_ins,plain_prg,-List.map_take,-List.map_replicate,-List.map_set];done)|(simp[keepT,AV.underL,AV.under,MB.under,underL_plain,under_plain,underL_append,plain_ints,plain_span,plain_ins,plain_prg,-List.map_take,-List.map_replicate,-List.map_set];omega)))
  ·intro hg
   rw[spansG_good (by omega) hg]
   simp +contextual (disch:=omega) only[Tryz.f106,dd106,go_sem,simprocAttr,mu106,↓wrap_up,↓wrap_down,↓wrap_pred,↓wrap_sub_nat]
   exact fzEq rfl rfl
end
section
attribute [local go_sem] evAppend List.length_append List.map_append
open Go.Proofs Go.RowKit Go.IntWalk
set_option maxRecDepth 100000
set_option maxHeartbeats 8000000
abbrev nodeL (op:Int) (set:List (Int×Int)) (kids:List Re) (mn mx md n:Int) (neg:Bool):List AV:=[I op,.sl false (set.map spanAV),.sl false (kids.map reAV),I mn,I mx,I md,I n,.bool neg]
theorem f132 (op:Int) (set:List (Int×Int)) (kids:List Re) (mn mx md n:Int) (neg:Bool) (H:List MB):call Tryz.prog pol1 107 [.pt (nodeL op set kids mn mx md n neg)] H=some (.bool (repG mn mx md),H):=by
 refine call_run Tryz.func107 rfl rfl rfl rfl rfl rfl (fun _=>rfl) (by simp[AV.plain,AV.plainL,plain_span,plain_kids]) rfl ?_ H
 by_cases h:mn < 0∨32 < mn∨md < 0∨2 < md
 ·have e:repG mn mx md=false:=by
   simp only[repG,Bool.and_eq_false_iff,decide_eq_false_iff_not]
   omega
  rw[e]
  have h':mn < 0∨(¬ mn < 0∧32 < mn)∨(¬ mn < 0∧¬ 32 < mn∧md < 0)∨(¬ mn < 0∧¬ 32 < mn∧¬ md < 0∧2 < md):=by omega
  rcases h' with h|⟨h,h1⟩|⟨h,h1,h2⟩|⟨h,h1,h2,h3⟩
  all_goals (
   simp +contextual (disch:=omega) only[Tryz.f107,dd107,go_sem,simprocAttr,mu107,↓wrap_up,↓wrap_down,↓wrap_pred,↓wrap_sub_nat]
   repeat' (first|intro _|apply And.intro|(unfold dOk;kernel_rfl)|exact St.beq_refl _|(show altO _ _ _ _=true;kernel_rfl)|(show (_ || _)=true;kernel_rfl)|(show (_ && _)=true;kernel_rfl))
   all_goals exact fzEq rfl rfl)
 ·have e:repG mn mx md=(mx == -1 || (decide (1≤mx) && decide (mx≤32) && decide (mn≤mx))):=by
   have h1:0≤mn:=by omega
   have h2:mn≤32:=by omega
   have h3:0≤md:=by omega
   have h4:md≤2:=by omega
   simp[repG,h1,h2,h3,h4]
  rw[e]
  simp +contextual (disch:=omega) only[Tryz.f107,dd107,go_sem,simprocAttr,mu107,↓wrap_up,↓wrap_down,↓wrap_pred,↓wrap_sub_nat]
  repeat' (first|intro _|apply And.intro|(unfold dOk;kernel_rfl)|exact St.beq_refl _|(show altO _ _ _ _=true;kernel_rfl)|(show (_ || _)=true;kernel_rfl)|(show (_ && _)=true;kernel_rfl))
  all_goals (first|exact fzEq rfl rfl|refine fzEq rfl (congrArg AV.bool ?_))
  all_goals (rw[Bool.eq_iff_iff];simp<;>omega)
theorem f104 (caps top:Int) (ht:top≤1114111) (op:Int) (set:List (Int×Int)) (kids:List Re) (mn mx md n:Int) (neg:Bool) (hs:set.length≤1000000) (hk:kids.length≤1000000) (H:List MB) :
  call Tryz.prog pol1 82 [.pt (nodeL op set kids mn mx md n neg),I caps,I top] H=some (.bool (formedG caps top (.mk op set kids mn mx md n neg)),H):=by
 refine call_run Tryz.func82 rfl rfl rfl rfl rfl rfl (fun _=>rfl) (by simp[AV.plain,AV.plainL,plain_span,plain_kids]) rfl ?_ H
 have h131:=f131 set top ht hs
 have h132:=f132 op set kids mn mx md n neg
 by_cases h0:op < 0∨11 < op
 ·have e:formedG caps top (.mk op set kids mn mx md n neg)=false:=by
   have:¬ (0≤op∧op≤11):=by omega
   simp only[formedG,Bool.and_eq_false_iff,decide_eq_false_iff_not]
   omega
  rw[e]
  simp +contextual (disch:=omega) only[Tryz.f82,dd82,go_sem,simprocAttr,mu82,↓wrap_up,↓wrap_down,↓wrap_pred,↓wrap_sub_nat,h131,h132]
  repeat' (first|intro _|apply And.intro|(unfold dOk;kernel_rfl)|exact St.beq_refl _|(show altO _ _ _ _=true;kernel_rfl)|(show (_ || _)=true;kernel_rfl)|(show (_ && _)=true;kernel_rfl))
  all_goals exact fzEq rfl rfl
 have hop:op=1∨op=4∨op=0∨op=2∨op=3∨op=5∨op=6∨op=7∨op=8∨op=9∨op=10∨op=11:=by omega
 clear h0
 rcases hop with rfl|rfl|rfl|rfl|rfl|rfl|rfl|rfl|rfl|rfl|rfl|rfl
 ·cases hsp:spansG set top
  all_goals (
   rw[hsp]at h131
   simp +contextual (disch:=omega) only[Tryz.f82,dd82,go_sem,simprocAttr,mu82,↓wrap_up,↓wrap_down,↓wrap_pred,↓wrap_sub_nat,h131,h132]
   repeat' (first|intro _|apply And.intro|(unfold dOk;kernel_rfl)|exact St.beq_refl _|(show altO _ _ _ _=true;kernel_rfl)|(show (_ || _)=true;kernel_rfl)|(show (_ && _)=true;kernel_rfl))
   all_goals (clear h131 h132;refine fzEq rfl (congrArg AV.bool ?_);first|(simp_all [formedG,kidsG];done)|(simp_all [formedG,kidsG];omega)))
 ·cases hrp:repG mn mx md
  all_goals (
   rw[hrp]at h132
   simp +contextual (disch:=omega) only[Tryz.f82,dd82,go_sem,simprocAttr,mu82,↓wrap_up,↓wrap_down,↓wrap_pred,↓wrap_sub_nat,h131,h132]
   repeat' (first|intro _|apply And.intro|(unfold dOk;kernel_rfl)|exact St.beq_refl _|(show altO _ _ _ _=true;kernel_rfl)|(show (_ || _)=true;kernel_rfl)|(show (_ && _)=true;kernel_rfl))
   all_goals (clear h131 h132;refine fzEq rfl (congrArg AV.bool ?_);first|(simp_all [formedG,kidsG];done)|(simp_all [formedG,kidsG];omega)))
 all_goals (
  simp +contextual (disch:=omega) only[Tryz.f82,dd82,go_sem,simprocAttr,mu82,↓wrap_up,↓wrap_down,↓wrap_pred,↓wrap_sub_nat,h131,h132]
  repeat' (first|intro _|apply And.intro|(unfold dOk;kernel_rfl)|exact St.beq_refl _|(show altO _ _ _ _=true;kernel_rfl)|(show (_ || _)=true;kernel_rfl)|(show (_ && _)=true;kernel_rfl))
  all_goals (clear h131 h132;refine fzEq rfl (congrArg AV.bool ?_);first|(simp_all [formedG,kidsG,repG];done)|(simp_all [formedG,kidsG,repG];omega)))
end
end Go.Ev
