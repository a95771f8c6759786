/- Functions of the program, each with what it computes; no further conditions. -/
import Derived.Test.YtjgmfjneajcbmaaGreatF06
import Derived.Test.YtjgmfjneajcbmaaGreatF17
import Derived.Test.YtjgmfjneajcbmaaGreatF14
set_option linter.unusedVariables false
set_option linter.unusedSimpArgs false
namespace Go.Ev
attribute [local go_sem] W_block evBin AV.cells frzB List.length_append List.map_append
section
attribute [local go_sem] tySzE List.head?_drop Nat.mul_one sameAt_zero sameAt_two sameAt_three sameAt_four sameAt_five room_ok
open Go.Proofs Go.RowKit Go.IntWalk
set_option maxRecDepth 100000
set_option maxHeartbeats 4000000
def meetL (L:List (List Nat)) (s:List Nat):List (List Nat):=if s=[]∨s∈L then L else L++[s]
def rowL (ins:List Ins) (l:List Nat) (reps:List Int) (L:List (List Nat)):List (List Nat):=reps.foldl (fun L x=>meetL L (nextL ins l x)) L
theorem meetL_len (L:List (List Nat)) (s:List Nat):L.length≤(meetL L s).length∧(meetL L s).length≤L.length+1:=by
 unfold meetL;split<;>simp
theorem meetL_pre (L:List (List Nat)) (s:List Nat):∃ k,meetL L s=L++k:=by
 unfold meetL;split
 ·exact⟨[],by simp⟩
 ·exact⟨_,rfl⟩
theorem rowL_pre (ins:List Ins) (l:List Nat):∀(reps:List Int) (L:List (List Nat)),∃ k,rowL ins l reps L=L++k
 | [],L=>⟨[],by simp[rowL]⟩
 | x::reps,L=>by
   obtain⟨k,h⟩:=meetL_pre L (nextL ins l x)
   obtain⟨k2,h2⟩:=rowL_pre ins l reps (meetL L (nextL ins l x))
   exact⟨k++k2,by show rowL ins l reps (meetL L (nextL ins l x))=_;rw[h2,h,List.append_assoc]⟩
theorem rowL_len (ins:List Ins) (l:List Nat) (reps:List Int) (L:List (List Nat)):L.length≤(rowL ins l reps L).length:=by
 obtain⟨k,h⟩:=rowL_pre ins l reps L
 rw[h,List.length_append];omega
theorem rowL_max (ins:List Ins) (l:List Nat):∀(reps:List Int) (L:List (List Nat)),(rowL ins l reps L).length≤L.length+reps.length
 | [],L=>by simp[rowL]
 | x::reps,L=>by
   have h1:=rowL_max ins l reps (meetL L (nextL ins l x))
   have h2:=meetL_len L (nextL ins l x)
   show (rowL ins l reps (meetL L (nextL ins l x))).length≤_
   rw[List.length_cons];omega
theorem rowL_take {ins:List Ins} {l:List Nat} {reps:List Int} {k:Nat} {x:Int} (h:reps[k]?=some x) (L:List (List Nat)):rowL ins l (reps.take (k+1)) L=meetL (rowL ins l (reps.take k) L) (nextL ins l x):=by
 rw[List.take_add_one,h];simp[rowL]
def explore (ins:List Ins) (reps:List Int):Nat→Nat→List (List Nat)→List (List Nat)
 | 0,_,L=>L
 | f+1,i,L=>if i < L.length∧L.length < 1025 then(match L[i]? with
   | some l=>explore ins reps f (i+1) (rowL ins l reps L)
   | none=>L) else L
theorem explore_len (ins:List Ins) (reps:List Int):∀(f i:Nat) (L:List (List Nat)),L.length≤(explore ins reps f i L).length
 | 0,i,L=>Nat.le_refl _
 | f+1,i,L=>by
   simp only[explore]
   split
   ·cases L[i]? with
    | none=>exact Nat.le_refl _
    | some l=>
      have h1:=rowL_len ins l reps L
      have h2:=explore_len ins reps f (i+1) (rowL ins l reps L)
      simp only;omega
   ·exact Nat.le_refl _
def statesFrom (ins:List Ins) (reps:List Int) (i:Nat) (L:List (List Nat)):List (List Nat):=explore ins reps (1025 - i) i L
theorem states_step {ins:List Ins} {reps:List Int} {i:Nat} {L:List (List Nat)} {l:List Nat} (h:L[i]?=some l) (hL:L.length < 1025):statesFrom ins reps i L=statesFrom ins reps (i+1) (rowL ins l reps L):=by
 have hi:=(List.getElem?_eq_some_iff.1 h).1
 unfold statesFrom
 obtain⟨f,hf⟩:∃ f,1025 - i=f+1:=⟨1024 - i,by omega⟩
 rw[hf,show 1025 - (i+1)=f by omega]
 simp only[explore,if_pos (show i < L.length∧L.length < 1025 from⟨hi,hL⟩),h]
theorem states_end {ins:List Ins} {reps:List Int} {i:Nat} {L:List (List Nat)} (h:¬ (i < L.length∧L.length < 1025)):statesFrom ins reps i L=L:=by
 unfold statesFrom
 cases 1025 - i with
 | zero=>rfl
 | succ f=>simp only[explore,if_neg h]
theorem states_len (ins:List Ins) (reps:List Int) (i:Nat) (L:List (List Nat)):L.length≤(statesFrom ins reps i L).length:=explore_len ins reps _ i L
def readG (ins:List Ins):List Spans:=(ins.filter fun i=>i.op == 1).map (·.set)
theorem readG_len (ins:List Ins):(readG ins).length≤ins.length:=by
 unfold readG;rw[List.length_map];exact List.length_filter_le _ _
theorem readG_take {ins:List Ins} {k:Nat} {p:Ins} (h:ins[k]?=some p):readG (ins.take (k+1))=if p.op=1 then readG (ins.take k)++[p.set] else readG (ins.take k):=by
 rw[List.take_add_one,h]
 unfold readG
 by_cases e:p.op=1<;>simp[e]
def topG (g:Prg):Int:=if g.runes then 1114111 else 255
def repsA (cls:List Spans):List Int:=cls.map fun c=>(c.headD (0,0)).1
noncomputable def fullA (g:Prg):Nat×Int:=
 if acceptG g≠0 then(0,acceptG g)
 else if 1024 < (readG g.ins).length then(0,4)
 else match splitA (readG g.ins) (endsR (readG g.ins) (topG g)) (topG g) with
  | none=>(0,4)
  | some cls=>if 1024 < (statesFrom g.ins (repsA cls) 0 (meetL [] (stateL g.ins [0]))).length then(0,4) else((statesFrom g.ins (repsA cls) 0 (meetL [] (stateL g.ins [0]))).length,0)
theorem refSpans_set {s:Spans} (h:refSpans s=0):SetV s∧s.length≤64:=by
 unfold refSpans at h
 split at h
 ·cases h
 rename_i h1
 split at h
 ·cases h
 rename_i h2
 have hb:∀ k,k < s.length→badAt s k=false:=fun k hk=>by
  rw[Bool.eq_false_iff]
  intro hb
  exact h1 (List.any_eq_true.2 ⟨k,List.mem_range.2 hk,hb⟩)
 have hgood:∀ p∈s,0≤p.1∧p.1≤p.2∧p.2≤1114111:=fun p hp=>by
  obtain⟨k,hk⟩:=List.getElem?_of_mem hp
  have:=hb k (List.getElem?_eq_some_iff.1 hk).1
  simp only[badAt,hk,Bool.or_eq_false_iff,Bool.not_eq_false',decide_eq_true_eq]at this
  exact this.1
 have hsep:∀(k:Nat) (p q:Int×Int),s[k]?=some p→s[k+1]?=some q→p.2+2≤q.1:=fun k p q hp hq=>by
  have:=hb (k+1) (List.getElem?_eq_some_iff.1 hq).1
  simp only[badAt,hq,hp,Bool.or_eq_false_iff,Bool.not_eq_false',decide_eq_true_eq,decide_eq_false_iff_not]at this
  omega
 refine⟨⟨?_,hgood⟩,by omega⟩
 rw[List.pairwise_iff_getElem]
 intro i j hi hj hij
 have key:∀ d (j:Nat) (hj:j < s.length),j=i+1+d→s[i].2+2≤s[j].1:=by
  intro d
  induction d with
  | zero=>
    intro j hj hd
    have:=hsep i s[i] s[j] (List.getElem?_eq_getElem hi) (by rw[← List.getElem?_eq_getElem hj];congr 1;omega)
    exact this
  | succ d ih=>
    intro j hj hd
    have h3:=ih (j - 1) (by omega) (by omega)
    have h4:=hsep (j - 1) s[j - 1] s[j] (List.getElem?_eq_getElem (by omega)) (by rw[← List.getElem?_eq_getElem hj];congr 1;omega)
    have h5:=hgood s[j - 1] (List.getElem_mem _)
    omega
 exact key (j - i - 1) j hj (by omega)
theorem readG_ok {g:Prg} (h:validG g=0):∀ s∈readG g.ins,SetV s∧refSpans s=0∧s.length≤64:=by
 intro s hs
 unfold readG at hs
 obtain⟨i,hi,rfl⟩:=List.mem_map.1 hs
 obtain⟨hi,hop⟩:=List.mem_filter.1 hi
 simp at hop
 unfold validG at h
 split at h
 ·cases h
 split at h
 ·cases h
 split at h
 ·rename_i h3
  rw[Bool.and_eq_true,List.all_eq_true]at h3
  have:=h3.1 i hi
  simp only[okIns,Bool.and_eq_true,Bool.or_eq_true,beq_iff_eq,decide_eq_true_eq]at this
  have h4:refSpans i.set=0:=by omega
  have:=refSpans_set h4
  exact⟨this.1,h4,this.2⟩
 ·cases h
def StatesOk (N:Nat) (L:List (List Nat)):Prop:=∀ l∈L,(∀ n∈l,n < N)∧l.length≤N
theorem StatesOk.meet {ins:List Ins} {L:List (List Nat)} (h:StatesOk ins.length L) (ns:List Nat):StatesOk ins.length (meetL L (stateL ins ns)):=by
 unfold meetL
 split
 ·exact h
 ·intro l hl
  rcases List.mem_append.1 hl with h1|h1
  ·exact h l h1
  ·rw[List.mem_singleton.1 h1];exact stateL_ok ins ns
theorem StatesOk.row {ins:List Ins} (l:List Nat):∀ {reps:List Int} {L:List (List Nat)},StatesOk ins.length L→StatesOk ins.length (rowL ins l reps L)
 | [],L,h=>h
 | x::reps,L,h=>StatesOk.row l (reps:=reps) (h.meet _)
section meet
theorem app_lz {H:List MB} {i n z:Nat} {L:List (List Nat)} {s:List Nat} {t:Bool} (hi:getRow H i=some (1,L.map lvAV,z)) (hz:z≤n) (hn:L.length=n) (hr:n+1≤4000000000) :
  evAppend Tryz.prog H 58 58 (.ms i 1 n 0 n) (.sl t [.sl false (s.map NV)])=some (.ms i 1 (n+1) 0 (n+1),H.set i (.row 1 ((L++[s]).map lvAV) z)):=by
 have hs:srcElems Tryz.prog H 22 (.sl t [.sl false (s.map NV)])=some [.sl false (s.map NV)]:=rfl
 rw[evAppend_end (e:=22) (by kernel_rfl) (by kernel_rfl) (k:=1) (by kernel_rfl) (by_:=24) (by kernel_rfl) (ze:=.sl true []) (by kernel_rfl) rfl (by omega) hs (by simp[AV.cells,AV.ok]) hi (by rw[List.length_map];exact hn) hz (room_ok (by simp;omega) (by omega))]
 rw[List.map_append];rfl
def kent (L:List (List Nat)):List (AV×AV):=L.map fun l=>(.str (keyS l),.bool true)
theorem kent_find {L:List (List Nat)} {s:List Nat} (hL:∀ l∈L,∀ n∈l,n < 65536) (hs:∀ n∈s,n < 65536):findMp (.str (keyS s)) (kent L)=if s∈L then some (.bool true) else none:=by
 induction L with
 | nil=>rfl
 | cons l L ih=>
   have ih:=ih fun l hl=>hL l (by simp[hl])
   show (if AV.beq (.str (keyS l)) (.str (keyS s))=true then some (.bool true) else findMp (.str (keyS s)) (kent L))=_
   by_cases e:l=s
   ·subst e
    rw[if_pos (beq_str.2 rfl),if_pos (by simp)]
   ·rw[if_neg (fun h=>e (keyS_inj (hL l (by simp)) hs (by have:=beq_str.1 h;simpa using this))),ih]
    simp[Ne.symm e]
theorem kent_upd {L:List (List Nat)} {s:List Nat} (hL:∀ l∈L,∀ n∈l,n < 65536) (hs:∀ n∈s,n < 65536) (h:s ∉ L):updMp (.str (keyS s)) (.bool true) (kent L)=kent (L++[s]):=by
 induction L with
 | nil=>rfl
 | cons l L ih=>
   have ih:=ih (fun l hl=>hL l (by simp[hl])) (fun h2=>h (by simp[h2]))
   have e:l≠s:=fun e=>h (by simp[e])
   show (if AV.beq (.str (keyS l)) (.str (keyS s))=true then _ else _::updMp (.str (keyS s)) (.bool true) (kent L))=_
   rw[if_neg (fun h=>e (keyS_inj (hL l (by simp)) hs (by have:=beq_str.1 h;simpa using this))),ih]
   rfl
abbrev meetH (A B:MB) (L:List (List Nat)):List MB:=[A,B,.row 1 [.ms 3 1 L.length 0 L.length] 0,.row 1 (L.map lvAV) 0,.mp .str (kent L),.row 1 [.mpr 4] 0]
abbrev meetC:List AV:=[.rf 0 1 0 0,.rf 5 1 0 0,.rf 2 1 0 0]
theorem frMeet (t:Bool) (l:List AV) (h:AV.plainL l=true) (H:List MB):frzArgs pol1 35 0 (.sl t l::meetC) H=some (.sl false l::meetC,H):=by
 have h1:frzArgs pol1 35 1 meetC H=some (meetC,H):=frzArgs_mix _ _ _ rfl
 unfold frzArgs
 rw[if_neg (show ¬ pol1.byref 35 0=true by decide),fz_slp h]
 simp only
 rw[h1]
theorem sf35 (g:Prg) (B:MB) (hl:g.ins.length≤8192) (hw:Leads g.ins) (t:Bool) (ns:List Nat) (hnl:ns.length≤1000000) (hns:∀ n∈ns,n < g.ins.length) (L:List (List Nat)) (hL:StatesOk g.ins.length L) (hLl:L.length≤1000000) :
  call Tryz.prog pol1 35 (.sl t (ns.map NV)::meetC) (meetH (.row 3 [prgAV g] 0) B L)=some (.tup [],meetH (.row 3 [prgAV g] 0) B (meetL L (stateL g.ins ns))):=by
 refine call_run2 (pol:=pol1) Tryz.func35 rfl rfl rfl rfl (frMeet t _ (plain_nv ns) _) ?_
 have rp:∀ H1 r H,retPol pol1 35 H1 r H=some (r,H):=fun H1 r H=>rfl
 have h36:=kf30l g.ins (by omega) hw ns hnl hns
 obtain⟨s1,s2⟩:=stateL_ok g.ins ns
 generalize stateL g.ins ns=s at *
 have h37:=kf51 s (by omega)
 have hf:=kent_find (L:=L) (s:=s) (fun l hl' n hn=>by have:=(hL l hl').1 n hn;omega) (fun n hn=>by have:=s1 n hn;omega)
 by_cases h0:s=[]
 ·subst h0
  have hm:meetL L []=L:=by simp[meetL]
  rw[hm]
  rw[List.map_nil]at h36 h37
  simp +contextual (disch:=omega) only[Tryz.f35,dd35,go_sem,simprocAttr,evAppend,mu35,↓wrap_up,↓wrap_down,↓wrap_pred,↓wrap_sub_nat,h36,h37]
  exact rp _ _ _
 ·have hpos:=List.length_pos_iff.2 h0
  by_cases hin:s∈L
  ·have hm:meetL L s=L:=by simp[meetL,hin]
   rw[if_pos hin]at hf
   rw[hm]
   simp +contextual (disch:=omega) only[Tryz.f35,dd35,go_sem,simprocAttr,evAppend,mu35,↓wrap_up,↓wrap_down,↓wrap_pred,↓wrap_sub_nat,h36,h37,hf]
   exact rp _ _ _
  ·have hm:meetL L s=L++[s]:=by simp[meetL,hin,h0]
   rw[if_neg hin]at hf
   have hu:=kent_upd (L:=L) (s:=s) (fun l hl' n hn=>by have:=(hL l hl').1 n hn;omega) (fun n hn=>by have:=s1 n hn;omega) hin
   have ha:=fun(x y z u v:MB) (t:Bool)=>app_lz (H:=[x,y,z,.row 1 (L.map lvAV) 0,u,v]) (i:=3) (n:=L.length) (s:=s) (t:=t) rfl (Nat.zero_le _) rfl (by omega)
   rw[hm]
   simp +contextual (disch:=omega) only[Tryz.f35,dd35,go_sem,simprocAttr,mu35,↓wrap_up,↓wrap_down,↓wrap_pred,↓wrap_sub_nat,h36,h37,hf,hu,ha]
   rw[rp]
   simp[meetH]
end meet
theorem acc_facts {g:Prg} (h:acceptG g=0):validG g=0∧(∀ i∈g.ins,i.op=0∨i.op=1∨i.op=2∨i.op=3∨i.op=4)∧Leads g.ins∧0 < g.ins.length∧g.ins.length≤8192:=by
 unfold acceptG at h
 split at h
 ·rename_i h1;exact absurd h h1
 rename_i h1
 have hv:validG g=0:=by omega
 split at h
 ·cases h
 rename_i h2
 have hv':=hv
 unfold validG at hv
 split at hv
 ·cases hv
 rename_i h3
 split at hv
 ·cases hv
 rename_i h4
 split at hv
 ·rename_i h5
  rw[Bool.and_eq_true,List.all_eq_true]at h5
  obtain⟨h5,h6⟩:=h5
  refine⟨hv',fun i hi=>?_,fun n i hi=>?_,by omega,by omega⟩
  ·have hm:=h5 i hi
   have h7:i.op≠5:=fun h5=>h2 (List.any_eq_true.2 ⟨i,hi,by simp[h5]⟩)
   simp only[okIns,Bool.and_eq_true,Bool.or_eq_true,beq_iff_eq,decide_eq_true_eq]at hm
   omega
  ·have hm:=h5 i (List.mem_of_getElem? hi)
   have hlt:=(List.getElem?_eq_some_iff.1 hi).1
   simp only[okIns,Bool.and_eq_true,Bool.or_eq_true,beq_iff_eq,decide_eq_true_eq]at hm
   refine⟨by omega,fun h=>by omega,fun h=>by omega,fun h=>?_⟩
   rcases Nat.lt_or_ge (n+1) g.ins.length with h7|h7
   ·exact h7
   ·exfalso
    obtain rfl:n=g.ins.length - 1:=by omega
    simp only[lastGood,hi,Bool.or_eq_true,beq_iff_eq]at h6
    omega
 ·cases hv
theorem reps_at {cls:List Spans} {k:Nat} {c:Spans} (h:cls[k]?=some c) (hp:0 < c.length):∃ p,c[0]?=some p∧(repsA cls)[k]?=some p.1:=by
 cases c with
 | nil=>simp at hp
 | cons p c=>exact⟨p,rfl,by simp[repsA,h]⟩
theorem splitA_pos {L:List Spans} {E:List Int} {top:Int} {cls:List Spans} (h:splitA L E top=some cls):cls.length≤1024∧∀ c∈cls,0 < c.length:=by
 unfold splitA at h
 split at h
 ·cases h
 ·rename_i hb
  cases h
  refine⟨?_,fun c hc=>?_⟩
  ·rw[classes_len]
   exact Nat.le_of_not_lt fun h=>hb (.inl h)
  ·obtain⟨d,hd,rfl⟩:=List.mem_map.1 hc
   exact clsOf_pos hd
structure FS where
 k:Nat
 L:List (List Nat)
 z:Nat
theorem sf15 (g:Prg) (hb:PrgB g) (H:List MB):call Tryz.prog pol1 15 [prgAV g] H=some (.tup [I (fullA g).1,I (fullA g).2],H):=by
 have h17:=kf17 g hb
 have hpg:=plain_prg g
 refine call_run Tryz.func15 rfl rfl rfl rfl rfl rfl (fun _=>rfl) (by simp[AV.plain,AV.plainL,plain_ins]) rfl ?_ H
 by_cases hacc:acceptG g=0
 ·obtain⟨hv,ho,hw,hN,hl⟩:=acc_facts hacc
  have hfull:fullA g=if 1024 < (readG g.ins).length then(0,(4:Int)) else match splitA (readG g.ins) (endsR (readG g.ins) (topG g)) (topG g) with
    | none=>(0,4)
    | some cls=>if 1024 < (statesFrom g.ins (repsA cls) 0 (meetL [] (stateL g.ins [0]))).length then(0,4) else((statesFrom g.ins (repsA cls) 0 (meetL [] (stateL g.ins [0]))).length,0):=by
   unfold fullA;exact if_neg (by simp[hacc])
  have hrd:=readG_ok hv
  have hrl:=readG_len g.ins
  have h39:=sf39 (readG g.ins) (topG g) (by unfold topG;split<;>omega) (by unfold topG;split<;>omega) (fun s h=>(hrd s h).1) (fun s h=>(hrd s h).2.1) (by omega) (fun s h=>(hrd s h).2.2)
  have hc40:∀ H,call Tryz.prog pol1 40 [prgAV g,.sl true [I 0]] H=some (.sl false ((stateL g.ins [0]).map NV),H):=by
   intro H
   rw[call_frz2 (l:=[prgAV g,.sl false [I 0]]) (H1:=H) rfl ?_ (by simp[AV.plainL,AV.plain,plain_ins])]
   ·exact kf40 g hl hw ho [0] (by simp) (by simpa using hN) H
   ·have h1:pol1.byref 40 0=false:=rfl
    have h2:pol1.byref 40 (0+1)=false:=rfl
    simp only[frzArgs,h1,h2,Bool.false_eq_true,if_false,fz_plain H (plain_prg g),fz_slp (l:=[I 0]) rfl]
  rw[hacc]at h17
  simp +contextual (disch:=omega) only[Tryz.f15,dd15,go_sem,simprocAttr,evAppend,mu15,↓wrap_up,↓wrap_down,↓wrap_pred,↓wrap_sub_nat,h17]
  refine W_count (M:=(mskOf (pol1.mask 15) (pol1.gc 15) (pol1.acts 15) 0 6)) rfl g.ins.length (fun i=>(⟨114,[(6,I i),(5,.ms 1 1 (readG (g.ins.take i)).length 0 (readG (g.ins.take i)).length),(1,.rf 0 1 0 0)],[.row 3 [prgAV g] 0,.row 1 ((readG (g.ins.take i)).map setAV) 0]⟩:St)) (fun i=>True) ?_ ?_ trivial _ (by first|rfl|(refine prep_cut rfl (by rfl) (by rfl) (by rfl) ?_ ?_<;>simp[AV.underL,AV.under,MB.under,underL_plain,under_plain,plain_ints,plain_span,plain_ins,plain_prg,-List.map_take,plain_sets]))
  ·intro i hi _
   obtain⟨p,hp⟩:∃ p,g.ins[i]?=some p:=⟨_,List.getElem?_eq_getElem hi⟩
   have hp':(g.ins.map insAV)[i]?=some (insAV p):=by simp[hp]
   have hst:=readG_take hp
   have hrl2:=readG_len (g.ins.take i)
   have hlt:=List.length_take_le i g.ins
   generalize readG (g.ins.take i)=L at *
   generalize readG (g.ins.take (i+1))=L2 at *
   by_cases h1:p.op=1
   ·rw[if_pos h1]at hst
    have a1:=fun(x:MB) (t:Bool)=>app_st (H:=[x,.row 1 (L.map setAV) 0]) (i:=1) (p:=p.set) (t:=t) rfl (Nat.zero_le _) rfl (by omega)
    have hln:L2.length=L.length+1:=by rw[hst];simp
    rw[hln]
    simp only[List.set_cons_succ,List.set_cons_zero]at a1
    rw[← hst]at a1
    simp +contextual (disch:=omega) only[Tryz.f15,dd15,go_sem,simprocAttr,mu15,↓wrap_up,↓wrap_down,↓wrap_pred,↓wrap_sub_nat,hp',h1,a1]
    exact(by first|rfl|(refine prep_cut rfl (by rfl) (by rfl) (by rfl) ?_ ?_<;>simp[AV.underL,AV.under,MB.under,underL_plain,under_plain,plain_ints,plain_span,plain_ins,plain_prg,-List.map_take,plain_sets]))
   ·rw[if_neg h1]at hst
    rw[hst]
    simp +contextual (disch:=omega) only[Tryz.f15,dd15,go_sem,simprocAttr,mu15,↓wrap_up,↓wrap_down,↓wrap_pred,↓wrap_sub_nat,hp',h1]
    exact(by first|rfl|(refine prep_cut rfl (by rfl) (by rfl) (by rfl) ?_ ?_<;>simp[AV.underL,AV.under,MB.under,underL_plain,under_plain,plain_ints,plain_span,plain_ins,plain_prg,-List.map_take,plain_sets]))
  ·intro _
   rw[List.take_length]
   have hpo:(topG g=255∧g.runes=false)∨(topG g=1114111∧g.runes=true):=by
    unfold topG;cases g.runes<;>simp
   have h39':∀ x,call Tryz.prog pol1 39 [.ms 1 1 (readG g.ins).length 0 (readG g.ins).length,I (topG g)] [x,.row 1 ((readG g.ins).map setAV) 0] =
     some (if 1024 < (readG g.ins).length then splitR none else splitR (splitA (readG g.ins) (endsR (readG g.ins) (topG g)) (topG g)),[x,.row 1 ((readG g.ins).map setAV) (readG g.ins).length]):=fun x=>by
    have hfz:fz (.ms 1 1 (readG g.ins).length 0 (readG g.ins).length) [x,.row 1 ((readG g.ins).map setAV) 0]=some (.sl false ((readG g.ins).map setAV),[x,.row 1 ((readG g.ins).map setAV) (readG g.ins).length]):=by
     rw[fz_row (k:=1) (z:=0) (els:=(readG g.ins).map setAV) rfl (List.length_map _) (plain_sets _)]
     simp[mark,getRow]
    rw[call_frz2 (l:=[.sl false ((readG g.ins).map setAV),I (topG g)]) (H1:=[x,.row 1 ((readG g.ins).map setAV) (readG g.ins).length]) rfl ?_ (by simp[AV.plainL,AV.plain,plain_sets])]
    ·exact h39 _
    ·have h1:pol1.byref 39 0=false:=rfl
     have h2:pol1.byref 39 (0+1)=false:=rfl
     simp only[frzArgs,h1,h2,Bool.false_eq_true,if_false,hfz,fz_plain _ (show AV.plain (I (topG g))=true from rfl)]
   generalize topG g=top at *
   have hsp:∀ cls,splitA (readG g.ins) (endsR (readG g.ins) top) top=some cls→cls.length≤1024∧∀ c∈cls,0 < c.length:=fun cls h=>splitA_pos h
   by_cases hbig:1024 < (readG g.ins).length
   ·rw[if_pos hbig]at hfull
    simp only[if_pos hbig]at h39'
    rw[hfull]
    rcases hpo with ⟨rfl,hr⟩|⟨rfl,hr⟩
    ·simp +contextual (disch:=omega) only[Tryz.f15,dd15,go_sem,simprocAttr,evAppend,mu15,↓wrap_up,↓wrap_down,↓wrap_pred,↓wrap_sub_nat,h39',hr,splitR]
     exact⟨_,rfl⟩
    ·simp +contextual (disch:=omega) only[Tryz.f15,dd15,go_sem,simprocAttr,evAppend,mu15,↓wrap_up,↓wrap_down,↓wrap_pred,↓wrap_sub_nat,h39',hr,splitR]
     exact⟨_,rfl⟩
   ·rw[if_neg hbig]at hfull
    simp only[if_neg hbig]at h39'
    generalize splitA (readG g.ins) (endsR (readG g.ins) top) top=sp at *
    generalize readG g.ins=RG at *
    cases sp with
    | none=>
      simp only at hfull
      rw[hfull]
      rcases hpo with ⟨rfl,hr⟩|⟨rfl,hr⟩
      ·simp +contextual (disch:=omega) only[Tryz.f15,dd15,go_sem,simprocAttr,evAppend,mu15,↓wrap_up,↓wrap_down,↓wrap_pred,↓wrap_sub_nat,h39',hr,splitR]
       exact⟨_,rfl⟩
      ·simp +contextual (disch:=omega) only[Tryz.f15,dd15,go_sem,simprocAttr,evAppend,mu15,↓wrap_up,↓wrap_down,↓wrap_pred,↓wrap_sub_nat,h39',hr,splitR]
       exact⟨_,rfl⟩
    | some cls=>
      obtain⟨hcl,hcp⟩:=hsp cls rfl
      simp only at hfull
      obtain⟨hs1,hs2⟩:=stateL_ok g.ins [0]
      have hS0:StatesOk g.ins.length (meetL [] (stateL g.ins [0])):=StatesOk.meet (ins:=g.ins) (L:=[]) (fun l h=>by cases h) [0]
      have hm0:meetL [] (stateL g.ins [0])=if stateL g.ins [0]=[] then [] else [stateL g.ins [0]]:=by unfold meetL;simp
      generalize stateL g.ins [0]=s0 at *
      have hpc:=plain_sets cls
      have h41:∀ l:List Nat,(∀ n∈l,n < g.ins.length)→l.length≤g.ins.length→∀ x H,call Tryz.prog pol1 41 [prgAV g,.sl false (l.map NV),I x] H=some (.sl false ((nextL g.ins l x).map NV),H):=fun l h1 h2 x H=>kf41 g hl hw ho hb.2 l (by omega) h1 x H
      have h42:∀(L:List (List Nat)) (s:List Nat) (n z:Nat) (A B:MB),StatesOk g.ins.length L→L.length=n→L.length≤1000000→s.length≤1000000→z≤n →
        call Tryz.prog pol1 42 [.ms 2 1 n 0 n,.sl false (s.map NV)] [A,B,.row 1 (L.map lvAV) z]=some (.bool (decide (s∈L)),[A,B,.row 1 (L.map lvAV) n]):=fun L s n z A B h1 h2 h3 h4 h5=>by
       subst h2
       have hfz:fz (.ms 2 1 L.length 0 L.length) [A,B,.row 1 (L.map lvAV) z]=some (.sl false (L.map lvAV),[A,B,.row 1 (L.map lvAV) L.length]):=by
        rw[fz_row (k:=1) (z:=z) (els:=L.map lvAV) rfl (List.length_map _) (plain_lv _)]
        simp[mark,getRow,Nat.max_eq_right h5]
       rw[call_frz2 (l:=[.sl false (L.map lvAV),.sl false (s.map NV)]) (H1:=[A,B,.row 1 (L.map lvAV) L.length]) rfl ?_ (by simp[AV.plainL,AV.plain,plain_lv,plain_nv])]
       ·exact kf42 L s h3 (fun l hl'=>by have:=(h1 l hl').2;omega) (by omega) _
       ·have q1:pol1.byref 42 0=false:=rfl
        have q2:pol1.byref 42 (0+1)=false:=rfl
        simp only[frzArgs,q1,q2,Bool.false_eq_true,if_false,hfz,fz_plain _ (show AV.plain (.sl false (s.map NV))=true by simp[AV.plain,plain_nv])]
      by_cases h00:s0=[]
      ·rw[if_pos h00]at hm0
       rw[hm0]at hfull hS0
       subst h00
       rw[List.map_nil]at hc40
       rcases hpo with ⟨rfl,hr⟩|⟨rfl,hr⟩
       all_goals
        simp only[prgAV,hr]at hc40
        simp +contextual (disch:=omega) only[Tryz.f15,dd15,go_sem,simprocAttr,evAppend,mu15,↓wrap_up,↓wrap_down,↓wrap_pred,↓wrap_sub_nat,h39',hr,splitR,hc40]
        refine W_for (σ:=FS) (M:=(mskOf (pol1.mask 15) (pol1.gc 15) (pol1.acts 15) 0 21)) rfl (fun x=>(⟨114,[(12,I x.k),(10,.ms 2 1 x.L.length 0 x.L.length),(8,.sl false (cls.map setAV)),(1,.rf 0 1 0 0)],[.row 3 [prgAV g] 0,.row 1 (RG.map setAV) RG.length,.row 1 (x.L.map lvAV) x.z]⟩:St))
         (fun x=>x.k≤x.L.length∧x.z≤x.L.length∧StatesOk g.ins.length x.L∧x.L.length≤3000∧statesFrom g.ins (repsA cls) x.k x.L=statesFrom g.ins (repsA cls) 0 []) (fun x=>3000 - x.k) ⟨0,[],0⟩ ?_ ⟨Nat.zero_le _,Nat.zero_le _,hS0,by simp,rfl⟩ _ rfl
        rintro⟨k,L,z⟩ ⟨q1,q2,q3,q4,q5⟩
        simp only at q1 q2 q3 q4 q5 ⊢
        by_cases hc:k < L.length∧L.length < 1025
        ·obtain⟨hk1,hk2⟩:=hc
         obtain⟨l,hlk⟩:∃ l,L[k]?=some l:=⟨_,List.getElem?_eq_getElem hk1⟩
         have hlo:=q3 l (List.mem_of_getElem? hlk)
         have hn41:=h41 l hlo.1 hlo.2
         have hstep:=states_step (ins:=g.ins) (reps:=repsA cls) hlk hk2
         have hmax:=fun j=>rowL_max g.ins l ((repsA cls).take j) L
         have hrl:(repsA cls).length=cls.length:=by simp[repsA]
         simp +contextual (disch:=omega) only[Tryz.f15,dd15,go_sem,simprocAttr,evAppend,mu15,↓wrap_up,↓wrap_down,↓wrap_pred,↓wrap_sub_nat]
         refine W_for (σ:=FS) (M:=(mskOf (pol1.mask 15) (pol1.gc 15) (pol1.acts 15) 0 24)) rfl (fun x=>(⟨114,[(13,I x.k),(12,I k),(10,.ms 2 1 x.L.length 0 x.L.length),(8,.sl false (cls.map setAV)),(1,.rf 0 1 0 0)],[.row 3 [prgAV g] 0,.row 1 (RG.map setAV) RG.length,.row 1 (x.L.map lvAV) x.z]⟩:St))
          (fun x=>x.k≤cls.length∧x.z≤x.L.length∧StatesOk g.ins.length x.L∧x.L=rowL g.ins l ((repsA cls).take x.k) L) (fun x=>cls.length - x.k) ⟨0,L,z⟩ ?_ ⟨Nat.zero_le _,q2,q3,rfl⟩ _ rfl
         rintro⟨j,L',z'⟩ ⟨p1,p2,p3,p4⟩
         simp only at p1 p2 p3 p4 ⊢
         have hmj:=hmax j
         rw[← p4]at hmj
         have htl:=List.length_take_le j (repsA cls)
         obtain⟨ext,hext⟩:=rowL_pre g.ins l ((repsA cls).take j) L
         rw[← p4]at hext
         have hlk':(L'.map lvAV)[k]?=some (lvAV l):=by
          rw[hext,List.getElem?_map,List.getElem?_append_left hk1,hlk];rfl
         have hkl:k < L'.length:=by rw[hext,List.length_append];omega
         by_cases hj:j < cls.length
         ·obtain⟨c,hcj⟩:∃ c,cls[j]?=some c:=⟨_,List.getElem?_eq_getElem hj⟩
          obtain⟨p,hp0,hpr⟩:=reps_at hcj (hcp c (List.mem_of_getElem? hcj))
          have hcj':(cls.map setAV)[j]?=some (setAV c):=by simp[hcj]
          have hp0':(c.map spanAV)[0]?=some (spanAV p):=by simp[hp0]
          have hnx:=hn41 p.1
          obtain⟨t1,t2⟩:=stateL_ok g.ins (afterL g.ins l p.1)
          have hrt:=rowL_take (ins:=g.ins) (l:=l) hpr L
          rw[← p4]at hrt
          have hso:=p3.meet (afterL g.ins l p.1)
          have hfd:=fun A B=>h42 L' (stateL g.ins (afterL g.ins l p.1)) L'.length z' A B p3 rfl (by omega) (by omega) p2
          simp only[nextL]at hnx hrt
          generalize stateL g.ins (afterL g.ins l p.1)=s at *
          by_cases hs0:s=[]
          ·have hm:meetL L' s=L':=by simp[meetL,hs0]
           have hsl:s.length=0:=by rw[hs0];rfl
           rw[hm]at hrt
           simp +contextual (disch:=omega) only[Tryz.f15,dd15,go_sem,simprocAttr,evAppend,mu15,↓wrap_up,↓wrap_down,↓wrap_pred,↓wrap_sub_nat,hlk',hcj',hp0',hnx,hfd,hsl]
           repeat' (first|intro _|apply And.intro|(unfold dOk;kernel_rfl)|exact St.beq_refl _|(show altO _ _ _ _=true;kernel_rfl)|(show (_ || _)=true;kernel_rfl)|(show (_ && _)=true;kernel_rfl))
           all_goals exact⟨⟨j+1,L',L'.length⟩,⟨hj,Nat.le_refl _,p3,hrt.symm⟩,by show cls.length - (j+1) < cls.length - j;omega,rfl⟩
          ·have hsl:=List.length_pos_iff.2 hs0
           by_cases hin:s∈L'
           ·have hm:meetL L' s=L':=by simp[meetL,hin]
            have hd:decide (s∈L')=true:=decide_eq_true hin
            rw[hm]at hrt
            simp only[hd]at hfd
            simp +contextual (disch:=omega) only[Tryz.f15,dd15,go_sem,simprocAttr,evAppend,mu15,↓wrap_up,↓wrap_down,↓wrap_pred,↓wrap_sub_nat,hlk',hcj',hp0',hnx,hfd]
            repeat' (first|intro _|apply And.intro|(unfold dOk;kernel_rfl)|exact St.beq_refl _|(show altO _ _ _ _=true;kernel_rfl)|(show (_ || _)=true;kernel_rfl)|(show (_ && _)=true;kernel_rfl))
            all_goals exact⟨⟨j+1,L',L'.length⟩,⟨hj,Nat.le_refl _,p3,hrt.symm⟩,by show cls.length - (j+1) < cls.length - j;omega,rfl⟩
           ·have hm:meetL L' s=L'++[s]:=by simp[meetL,hin,hs0]
            have hd:decide (s∈L')=false:=decide_eq_false hin
            rw[hm]at hrt hso
            simp only[hd]at hfd
            have a1:=fun(x y:MB) (t:Bool)=>app_lz (H:=[x,y,.row 1 (L'.map lvAV) L'.length]) (i:=2) (n:=L'.length) (s:=s) (t:=t) rfl (Nat.le_refl _) rfl (by omega)
            have hl2:(L'++[s]).length=L'.length+1:=by simp
            generalize hL2:L'++[s]=L2 at *
            simp only[List.set_cons_succ,List.set_cons_zero]at a1
            simp +contextual (disch:=omega) only[Tryz.f15,dd15,go_sem,simprocAttr,mu15,↓wrap_up,↓wrap_down,↓wrap_pred,↓wrap_sub_nat,hlk',hcj',hp0',hnx,hfd,a1]
            repeat' (first|intro _|apply And.intro|(unfold dOk;kernel_rfl)|exact St.beq_refl _|(show altO _ _ _ _=true;kernel_rfl)|(show (_ || _)=true;kernel_rfl)|(show (_ && _)=true;kernel_rfl))
            all_goals exact⟨⟨j+1,L2,L'.length⟩,⟨hj,by show L'.length≤L2.length;omega,hso,hrt.symm⟩,by show cls.length - (j+1) < cls.length - j;omega,by rw[hl2];rfl⟩
         ·obtain rfl:j=cls.length:=by omega
          rw[List.take_of_length_le (by omega)]at p4
          rw[← p4]at hstep
          have hge:=rowL_len g.ins l (repsA cls) L
          rw[← p4]at hge
          simp +contextual (disch:=omega) only[Tryz.f15,dd15,go_sem,simprocAttr,evAppend,mu15,↓wrap_up,↓wrap_down,↓wrap_pred,↓wrap_sub_nat]
          exact⟨⟨k+1,L',z'⟩,⟨by simp only;omega,p2,p3,by simp only;omega,hstep.symm.trans q5⟩,by show 3000 - (k+1) < 3000 - k;omega,rfl⟩
        ·have hend:=states_end (ins:=g.ins) (reps:=repsA cls) hc
         rw[hend]at q5
         rw[hfull,← q5]
         by_cases hbig2:1024 < L.length
         ·rw[if_pos hbig2]
          simp +contextual (disch:=omega) only[Tryz.f15,dd15,go_sem,simprocAttr,evAppend,mu15,↓wrap_up,↓wrap_down,↓wrap_pred,↓wrap_sub_nat]
          exact⟨fun _=>⟨_,rfl⟩,fun _=>⟨_,rfl⟩⟩
         ·rw[if_neg hbig2]
          have hkl:k=L.length:=by omega
          subst hkl
          simp +contextual (disch:=omega) only[Tryz.f15,dd15,go_sem,simprocAttr,evAppend,mu15,↓wrap_up,↓wrap_down,↓wrap_pred,↓wrap_sub_nat]
          exact⟨_,rfl⟩
      ·rw[if_neg h00]at hm0
       rw[hm0]at hfull hS0
       have hpos:=List.length_pos_iff.2 h00
       have a0:=fun(x y:MB) (t:Bool)=>app_lz (H:=[x,y,.row 1 [] 0]) (i:=2) (n:=0) (L:=[]) (s:=s0) (t:=t) rfl (Nat.zero_le _) rfl (by omega)
       simp only[List.set_cons_succ,List.set_cons_zero,List.nil_append,List.map_cons,List.map_nil,Nat.zero_add]at a0
       rcases hpo with ⟨rfl,hr⟩|⟨rfl,hr⟩
       all_goals
        simp only[prgAV,hr]at hc40
        simp +contextual (disch:=omega) only[Tryz.f15,dd15,go_sem,simprocAttr,mu15,↓wrap_up,↓wrap_down,↓wrap_pred,↓wrap_sub_nat,h39',hr,splitR,hc40,a0]
        refine W_for (σ:=FS) (M:=(mskOf (pol1.mask 15) (pol1.gc 15) (pol1.acts 15) 0 21)) rfl (fun x=>(⟨114,[(12,I x.k),(10,.ms 2 1 x.L.length 0 x.L.length),(8,.sl false (cls.map setAV)),(1,.rf 0 1 0 0)],[.row 3 [prgAV g] 0,.row 1 (RG.map setAV) RG.length,.row 1 (x.L.map lvAV) x.z]⟩:St))
         (fun x=>x.k≤x.L.length∧x.z≤x.L.length∧StatesOk g.ins.length x.L∧x.L.length≤3000∧statesFrom g.ins (repsA cls) x.k x.L=statesFrom g.ins (repsA cls) 0 [s0]) (fun x=>3000 - x.k) ⟨0,[s0],0⟩ ?_ ⟨Nat.zero_le _,Nat.zero_le _,hS0,by simp,rfl⟩ _ rfl
        rintro⟨k,L,z⟩ ⟨q1,q2,q3,q4,q5⟩
        simp only at q1 q2 q3 q4 q5 ⊢
        by_cases hc:k < L.length∧L.length < 1025
        ·obtain⟨hk1,hk2⟩:=hc
         obtain⟨l,hlk⟩:∃ l,L[k]?=some l:=⟨_,List.getElem?_eq_getElem hk1⟩
         have hlo:=q3 l (List.mem_of_getElem? hlk)
         have hn41:=h41 l hlo.1 hlo.2
         have hstep:=states_step (ins:=g.ins) (reps:=repsA cls) hlk hk2
         have hmax:=fun j=>rowL_max g.ins l ((repsA cls).take j) L
         have hrl:(repsA cls).length=cls.length:=by simp[repsA]
         simp +contextual (disch:=omega) only[Tryz.f15,dd15,go_sem,simprocAttr,evAppend,mu15,↓wrap_up,↓wrap_down,↓wrap_pred,↓wrap_sub_nat]
         refine W_for (σ:=FS) (M:=(mskOf (pol1.mask 15) (pol1.gc 15) (pol1.acts 15) 0 24)) rfl (fun x=>(⟨114,[(13,I x.k),(12,I k),(10,.ms 2 1 x.L.length 0 x.L.length),(8,.sl false (cls.map setAV)),(1,.rf 0 1 0 0)],[.row 3 [prgAV g] 0,.row 1 (RG.map setAV) RG.length,.row 1 (x.L.map lvAV) x.z]⟩:St))
          (fun x=>x.k≤cls.length∧x.z≤x.L.length∧StatesOk g.ins.length x.L∧x.L=rowL g.ins l ((repsA cls).take x.k) L) (fun x=>cls.length - x.k) ⟨0,L,z⟩ ?_ ⟨Nat.zero_le _,q2,q3,rfl⟩ _ rfl
         rintro⟨j,L',z'⟩ ⟨p1,p2,p3,p4⟩
         simp only at p1 p2 p3 p4 ⊢
         have hmj:=hmax j
         rw[← p4]at hmj
         have htl:=List.length_take_le j (repsA cls)
         obtain⟨ext,hext⟩:=rowL_pre g.ins l ((repsA cls).take j) L
         rw[← p4]at hext
         have hlk':(L'.map lvAV)[k]?=some (lvAV l):=by
          rw[hext,List.getElem?_map,List.getElem?_append_left hk1,hlk];rfl
         have hkl:k < L'.length:=by rw[hext,List.length_append];omega
         by_cases hj:j < cls.length
         ·obtain⟨c,hcj⟩:∃ c,cls[j]?=some c:=⟨_,List.getElem?_eq_getElem hj⟩
          obtain⟨p,hp0,hpr⟩:=reps_at hcj (hcp c (List.mem_of_getElem? hcj))
          have hcj':(cls.map setAV)[j]?=some (setAV c):=by simp[hcj]
          have hp0':(c.map spanAV)[0]?=some (spanAV p):=by simp[hp0]
          have hnx:=hn41 p.1
          obtain⟨t1,t2⟩:=stateL_ok g.ins (afterL g.ins l p.1)
          have hrt:=rowL_take (ins:=g.ins) (l:=l) hpr L
          rw[← p4]at hrt
          have hso:=p3.meet (afterL g.ins l p.1)
          have hfd:=fun A B=>h42 L' (stateL g.ins (afterL g.ins l p.1)) L'.length z' A B p3 rfl (by omega) (by omega) p2
          simp only[nextL]at hnx hrt
          generalize stateL g.ins (afterL g.ins l p.1)=s at *
          by_cases hs0:s=[]
          ·have hm:meetL L' s=L':=by simp[meetL,hs0]
           have hsl:s.length=0:=by rw[hs0];rfl
           rw[hm]at hrt
           simp +contextual (disch:=omega) only[Tryz.f15,dd15,go_sem,simprocAttr,evAppend,mu15,↓wrap_up,↓wrap_down,↓wrap_pred,↓wrap_sub_nat,hlk',hcj',hp0',hnx,hfd,hsl]
           repeat' (first|intro _|apply And.intro|(unfold dOk;kernel_rfl)|exact St.beq_refl _|(show altO _ _ _ _=true;kernel_rfl)|(show (_ || _)=true;kernel_rfl)|(show (_ && _)=true;kernel_rfl))
           all_goals exact⟨⟨j+1,L',L'.length⟩,⟨hj,Nat.le_refl _,p3,hrt.symm⟩,by show cls.length - (j+1) < cls.length - j;omega,rfl⟩
          ·have hsl:=List.length_pos_iff.2 hs0
           by_cases hin:s∈L'
           ·have hm:meetL L' s=L':=by simp[meetL,hin]
            have hd:decide (s∈L')=true:=decide_eq_true hin
            rw[hm]at hrt
            simp only[hd]at hfd
            simp +contextual (disch:=omega) only[Tryz.f15,dd15,go_sem,simprocAttr,evAppend,mu15,↓wrap_up,↓wrap_down,↓wrap_pred,↓wrap_sub_nat,hlk',hcj',hp0',hnx,hfd]
            repeat' (first|intro _|apply And.intro|(unfold dOk;kernel_rfl)|exact St.beq_refl _|(show altO _ _ _ _=true;kernel_rfl)|(show (_ || _)=true;kernel_rfl)|(show (_ && _)=true;kernel_rfl))
            all_goals exact⟨⟨j+1,L',L'.length⟩,⟨hj,Nat.le_refl _,p3,hrt.symm⟩,by show cls.length - (j+1) < cls.length - j;omega,rfl⟩
           ·have hm:meetL L' s=L'++[s]:=by simp[meetL,hin,hs0]
            have hd:decide (s∈L')=false:=decide_eq_false hin
            rw[hm]at hrt hso
            simp only[hd]at hfd
            have a1:=fun(x y:MB) (t:Bool)=>app_lz (H:=[x,y,.row 1 (L'.map lvAV) L'.length]) (i:=2) (n:=L'.length) (s:=s) (t:=t) rfl (Nat.le_refl _) rfl (by omega)
            have hl2:(L'++[s]).length=L'.length+1:=by simp
            generalize hL2:L'++[s]=L2 at *
            simp only[List.set_cons_succ,List.set_cons_zero]at a1
            simp +contextual (disch:=omega) only[Tryz.f15,dd15,go_sem,simprocAttr,mu15,↓wrap_up,↓wrap_down,↓wrap_pred,↓wrap_sub_nat,hlk',hcj',hp0',hnx,hfd,a1]
            repeat' (first|intro _|apply And.intro|(unfold dOk;kernel_rfl)|exact St.beq_refl _|(show altO _ _ _ _=true;kernel_rfl)|(show (_ || _)=true;kernel_rfl)|(show (_ && _)=true;kernel_rfl))
            all_goals exact⟨⟨j+1,L2,L'.length⟩,⟨hj,by show L'.length≤L2.length;omega,hso,hrt.symm⟩,by show cls.length - (j+1) < cls.length - j;omega,by rw[hl2];rfl⟩
         ·obtain rfl:j=cls.length:=by omega
          rw[List.take_of_length_le (by omega)]at p4
          rw[← p4]at hstep
          have hge:=rowL_len g.ins l (repsA cls) L
          rw[← p4]at hge
          simp +contextual (disch:=omega) only[Tryz.f15,dd15,go_sem,simprocAttr,evAppend,mu15,↓wrap_up,↓wrap_down,↓wrap_pred,↓wrap_sub_nat]
          exact⟨⟨k+1,L',z'⟩,⟨by simp only;omega,p2,p3,by simp only;omega,hstep.symm.trans q5⟩,by show 3000 - (k+1) < 3000 - k;omega,rfl⟩
        ·have hend:=states_end (ins:=g.ins) (reps:=repsA cls) hc
         rw[hend]at q5
         rw[hfull,← q5]
         by_cases hbig2:1024 < L.length
         ·rw[if_pos hbig2]
          simp +contextual (disch:=omega) only[Tryz.f15,dd15,go_sem,simprocAttr,evAppend,mu15,↓wrap_up,↓wrap_down,↓wrap_pred,↓wrap_sub_nat]
          exact⟨fun _=>⟨_,rfl⟩,fun _=>⟨_,rfl⟩⟩
         ·rw[if_neg hbig2]
          have hkl:k=L.length:=by omega
          subst hkl
          simp +contextual (disch:=omega) only[Tryz.f15,dd15,go_sem,simprocAttr,evAppend,mu15,↓wrap_up,↓wrap_down,↓wrap_pred,↓wrap_sub_nat]
          exact⟨_,rfl⟩
 ·have hfull:fullA g=(0,acceptG g):=by unfold fullA;rw[if_pos hacc]
  rw[hfull]
  generalize acceptG g=e at *
  simp +contextual (disch:=omega) only[Tryz.f15,dd15,go_sem,simprocAttr,evAppend,mu15,↓wrap_up,↓wrap_down,↓wrap_pred,↓wrap_sub_nat,h17]
  exact⟨_,rfl⟩
end
section
attribute [local go_sem] tySzE List.head?_drop Nat.mul_one sameAt_zero sameAt_two sameAt_three sameAt_four sameAt_five room_ok
open Go.Proofs Go.RowKit Go.IntWalk
set_option maxRecDepth 100000
set_option maxHeartbeats 4000000
theorem sf38 (g:Prg) (hb:PrgB g) (l:List Nat) (h1:∀ n∈l,n < g.ins.length) (h2:l.length≤1000000) (x:Int) (H:List MB):call Tryz.prog pol1 38 [.sl false (g.ins.map insAV),lvAV l,I x] H=some (.sl false ((afterL g.ins l x).map NV),H):=kf52 g.ins hb.1 hb.2 l h2 h1 x H
theorem sf13 (g:Prg) (hb:PrgB g) (H:List MB):call Tryz.prog pol1 13 [prgAV g] H=some (.tup [I (fullA g).1,I (fullA g).2],H):=by
 have h33:=kf27 g hb
 have hpg:=plain_prg g
 refine call_run Tryz.func13 rfl rfl rfl rfl rfl rfl (fun _=>rfl) (by simp[AV.plain,AV.plainL,plain_ins]) rfl ?_ H
 by_cases hacc:acceptG g=0
 ·obtain⟨hv,ho,hw,hN,hl⟩:=acc_facts hacc
  have hfull:fullA g=if 1024 < (readG g.ins).length then(0,(4:Int)) else match splitA (readG g.ins) (endsR (readG g.ins) (topG g)) (topG g) with
    | none=>(0,4)
    | some cls=>if 1024 < (statesFrom g.ins (repsA cls) 0 (meetL [] (stateL g.ins [0]))).length then(0,4) else((statesFrom g.ins (repsA cls) 0 (meetL [] (stateL g.ins [0]))).length,0):=by
   unfold fullA;exact if_neg (by simp[hacc])
  have hrd:=readG_ok hv
  have hrl:=readG_len g.ins
  have h34:=sf34 (readG g.ins) (topG g) (by unfold topG;split<;>omega) (by unfold topG;split<;>omega) (fun s h=>(hrd s h).1) (fun s h=>(hrd s h).2.1) (by omega) (fun s h=>(hrd s h).2.2)
  rw[hacc]at h33
  simp +contextual (disch:=omega) only[Tryz.f13,dd13,go_sem,simprocAttr,evAppend,mu13,↓wrap_up,↓wrap_down,↓wrap_pred,↓wrap_sub_nat,h33]
  refine W_count (M:=(mskOf (pol1.mask 13) (pol1.gc 13) (pol1.acts 13) 0 6)) rfl g.ins.length (fun i=>(⟨85,[(25,I i),(24,I g.ins.length),(23,.sl false (g.ins.map insAV)),(5,.ms 1 1 (readG (g.ins.take i)).length 0 (readG (g.ins.take i)).length),(1,.rf 0 1 0 0)],[.row 3 [prgAV g] 0,.row 1 ((readG (g.ins.take i)).map setAV) 0]⟩:St)) (fun i=>True) ?_ ?_ trivial _ (by first|rfl|(refine prep_cut rfl (by rfl) (by rfl) (by rfl) ?_ ?_<;>simp[AV.underL,AV.under,MB.under,underL_plain,under_plain,plain_ints,plain_span,plain_ins,plain_prg,-List.map_take,plain_sets]))
  ·intro i hi _
   obtain⟨p,hp⟩:∃ p,g.ins[i]?=some p:=⟨_,List.getElem?_eq_getElem hi⟩
   have hp':(g.ins.map insAV)[i]?=some (insAV p):=by simp[hp]
   have hst:=readG_take hp
   have hrl2:=readG_len (g.ins.take i)
   have hlt:=List.length_take_le i g.ins
   generalize readG (g.ins.take i)=L at *
   generalize readG (g.ins.take (i+1))=L2 at *
   by_cases h1:p.op=1
   ·rw[if_pos h1]at hst
    have a1:=fun(x y:MB) (t:Bool)=>app_st (H:=[x,.row 1 (L.map setAV) 0,y]) (i:=1) (p:=p.set) (t:=t) rfl (Nat.zero_le _) rfl (by omega)
    have hln:L2.length=L.length+1:=by rw[hst];simp
    rw[hln]
    simp only[List.set_cons_succ,List.set_cons_zero]at a1
    rw[← hst]at a1
    simp +contextual (disch:=omega) only[Tryz.f13,dd13,go_sem,simprocAttr,mu13,↓wrap_up,↓wrap_down,↓wrap_pred,↓wrap_sub_nat,hp',h1,a1]
    exact(by first|rfl|(refine prep_cut rfl (by rfl) (by rfl) (by rfl) ?_ ?_<;>simp[AV.underL,AV.under,MB.under,underL_plain,under_plain,plain_ints,plain_span,plain_ins,plain_prg,-List.map_take,plain_sets]))
   ·rw[if_neg h1]at hst
    rw[hst]
    simp +contextual (disch:=omega) only[Tryz.f13,dd13,go_sem,simprocAttr,mu13,↓wrap_up,↓wrap_down,↓wrap_pred,↓wrap_sub_nat,hp',h1]
    exact(by first|rfl|(refine prep_cut rfl (by rfl) (by rfl) (by rfl) ?_ ?_<;>simp[AV.underL,AV.under,MB.under,underL_plain,under_plain,plain_ints,plain_span,plain_ins,plain_prg,-List.map_take,plain_sets]))
  ·intro _
   rw[List.take_length]
   have hpo:(topG g=255∧g.runes=false)∨(topG g=1114111∧g.runes=true):=by
    unfold topG;cases g.runes<;>simp
   have h34':∀ x,call Tryz.prog pol1 34 [.ms 1 1 (readG g.ins).length 0 (readG g.ins).length,I (topG g)] [x,.row 1 ((readG g.ins).map setAV) 0] =
     some (if 1024 < (readG g.ins).length then splitR none else splitR (splitA (readG g.ins) (endsR (readG g.ins) (topG g)) (topG g)),[x,.row 1 ((readG g.ins).map setAV) (readG g.ins).length]):=fun x=>by
    have hfz:fz (.ms 1 1 (readG g.ins).length 0 (readG g.ins).length) [x,.row 1 ((readG g.ins).map setAV) 0]=some (.sl false ((readG g.ins).map setAV),[x,.row 1 ((readG g.ins).map setAV) (readG g.ins).length]):=by
     rw[fz_row (k:=1) (z:=0) (els:=(readG g.ins).map setAV) rfl (List.length_map _) (plain_sets _)]
     simp[mark,getRow]
    rw[call_frz2 (l:=[.sl false ((readG g.ins).map setAV),I (topG g)]) (H1:=[x,.row 1 ((readG g.ins).map setAV) (readG g.ins).length]) rfl ?_ (by simp[AV.plainL,AV.plain,plain_sets])]
    ·exact h34 _
    ·have h1:pol1.byref 34 0=false:=rfl
     have h2:pol1.byref 34 (0+1)=false:=rfl
     simp only[frzArgs,h1,h2,Bool.false_eq_true,if_false,hfz,fz_plain _ (show AV.plain (I (topG g))=true from rfl)]
   generalize topG g=top at *
   have hsp:∀ cls,splitA (readG g.ins) (endsR (readG g.ins) top) top=some cls→cls.length≤1024∧∀ c∈cls,0 < c.length:=fun cls h=>splitA_pos h
   by_cases hbig:1024 < (readG g.ins).length
   ·rw[if_pos hbig]at hfull
    simp only[if_pos hbig]at h34'
    rw[hfull]
    rcases hpo with ⟨rfl,hr⟩|⟨rfl,hr⟩
    ·simp +contextual (disch:=omega) only[Tryz.f13,dd13,go_sem,simprocAttr,evAppend,mu13,↓wrap_up,↓wrap_down,↓wrap_pred,↓wrap_sub_nat,h34',hr,splitR]
     exact⟨_,rfl⟩
    ·simp +contextual (disch:=omega) only[Tryz.f13,dd13,go_sem,simprocAttr,evAppend,mu13,↓wrap_up,↓wrap_down,↓wrap_pred,↓wrap_sub_nat,h34',hr,splitR]
     exact⟨_,rfl⟩
   ·rw[if_neg hbig]at hfull
    simp only[if_neg hbig]at h34'
    generalize splitA (readG g.ins) (endsR (readG g.ins) top) top=sp at *
    generalize readG g.ins=RG at *
    cases sp with
    | none=>
      simp only at hfull
      rw[hfull]
      rcases hpo with ⟨rfl,hr⟩|⟨rfl,hr⟩
      ·simp +contextual (disch:=omega) only[Tryz.f13,dd13,go_sem,simprocAttr,evAppend,mu13,↓wrap_up,↓wrap_down,↓wrap_pred,↓wrap_sub_nat,h34',hr,splitR]
       exact⟨_,rfl⟩
      ·simp +contextual (disch:=omega) only[Tryz.f13,dd13,go_sem,simprocAttr,evAppend,mu13,↓wrap_up,↓wrap_down,↓wrap_pred,↓wrap_sub_nat,h34',hr,splitR]
       exact⟨_,rfl⟩
    | some cls=>
      obtain⟨hcl,hcp⟩:=hsp cls rfl
      simp only at hfull
      have hS0:StatesOk g.ins.length (meetL [] (stateL g.ins [0])):=StatesOk.meet (ins:=g.ins) (L:=[]) (fun l h=>by cases h) [0]
      have hm1:=(meetL_len [] (stateL g.ins [0])).2
      have h35:∀ B,call Tryz.prog pol1 35 [.sl true [I 0],.rf 0 1 0 0,.rf 5 1 0 0,.rf 2 1 0 0] [.row 3 [prgAV g] 0,B,.row 1 [.ms 3 1 0 0 0] 0,.row 1 [] 0,.mp .str [],.row 1 [.mpr 4] 0]=some (.tup [],meetH (.row 3 [prgAV g] 0) B (meetL [] (stateL g.ins [0]))):=fun B=>sf35 g B hl hw true [0] (by simp) (by simpa using hN) [] (fun l h=>by cases h) (by simp)
      generalize meetL [] (stateL g.ins [0])=L0 at *
      have hpc:=plain_sets cls
      rcases hpo with ⟨rfl,hr⟩|⟨rfl,hr⟩
      all_goals
       simp +contextual (disch:=omega) only[Tryz.f13,dd13,go_sem,simprocAttr,evAppend,mu13,↓wrap_up,↓wrap_down,↓wrap_pred,↓wrap_sub_nat,h34',hr,splitR,h35]
       refine W_for (σ:=FS) (M:=(mskOf (pol1.mask 13) (pol1.gc 13) (pol1.acts 13) 0 22)) rfl (fun x=>(⟨85,[(14,I x.k),(13,.clo 35 meetC),(11,.rf 2 1 0 0),(9,.sl false (cls.map setAV)),(1,.rf 0 1 0 0)],meetH (.row 3 [prgAV g] 0) (.row 1 (RG.map setAV) RG.length) x.L⟩:St))
        (fun x=>x.k≤x.L.length∧StatesOk g.ins.length x.L∧x.L.length≤1024∧statesFrom g.ins (repsA cls) x.k x.L=statesFrom g.ins (repsA cls) 0 L0) (fun x=>3000 - x.k) ⟨0,L0,0⟩ ?_ ⟨Nat.zero_le _,hS0,by simp only[List.length_nil]at hm1;show L0.length≤1024;omega,rfl⟩ _ rfl
       rintro⟨k,L,z⟩ ⟨q1,q3,q4,q5⟩
       simp only at q1 q3 q4 q5 ⊢
       by_cases hk1:k < L.length
       ·obtain⟨l,hlk⟩:∃ l,L[k]?=some l:=⟨_,List.getElem?_eq_getElem hk1⟩
        have hlo:=q3 l (List.mem_of_getElem? hlk)
        have hn38:=sf38 g hb l hlo.1 (by omega)
        have hstep:=states_step (ins:=g.ins) (reps:=repsA cls) hlk (by omega)
        have hrl:(repsA cls).length=cls.length:=by simp[repsA]
        simp +contextual (disch:=omega) only[Tryz.f13,dd13,go_sem,simprocAttr,evAppend,mu13,↓wrap_up,↓wrap_down,↓wrap_pred,↓wrap_sub_nat,meetH,meetC]
        refine W_for (σ:=FS) (M:=(mskOf (pol1.mask 13) (pol1.gc 13) (pol1.acts 13) 0 25)) rfl (fun x=>(⟨85,[(62,I x.k),(61,I cls.length),(60,.sl false (cls.map setAV)),(14,I k),(13,.clo 35 meetC),(11,.rf 2 1 0 0),(9,.sl false (cls.map setAV)),(1,.rf 0 1 0 0)],meetH (.row 3 [prgAV g] 0) (.row 1 (RG.map setAV) RG.length) x.L⟩:St))
         (fun x=>x.k≤cls.length∧StatesOk g.ins.length x.L∧x.L.length≤1024∧x.L=rowL g.ins l ((repsA cls).take x.k) L) (fun x=>cls.length - x.k) ⟨0,L,0⟩ ?_ ⟨Nat.zero_le _,q3,q4,rfl⟩ _ rfl
        rintro⟨j,L',z'⟩ ⟨p1,p3,p2,p4⟩
        simp only at p1 p2 p3 p4 ⊢
        obtain⟨ext,hext⟩:=rowL_pre g.ins l ((repsA cls).take j) L
        rw[← p4]at hext
        have hlk':(L'.map lvAV)[k]?=some (lvAV l):=by
         rw[hext,List.getElem?_map,List.getElem?_append_left hk1,hlk];rfl
        have hkl:k < L'.length:=by rw[hext,List.length_append];omega
        by_cases hj:j < cls.length
        ·obtain⟨c,hcj⟩:∃ c,cls[j]?=some c:=⟨_,List.getElem?_eq_getElem hj⟩
         obtain⟨p,hp0,hpr⟩:=reps_at hcj (hcp c (List.mem_of_getElem? hcj))
         have hcj':(cls.map setAV)[j]?=some (setAV c):=by simp[hcj]
         have hp0':(c.map spanAV)[0]?=some (spanAV p):=by simp[hp0]
         have hnx:=hn38 p.1
         have hrt:=rowL_take (ins:=g.ins) (l:=l) hpr L
         rw[← p4]at hrt
         have hal:=afterL_lt hw l p.1
         have hall:=afterL_len g.ins l p.1
         have hso:=p3.meet (afterL g.ins l p.1)
         have hml:=meetL_len L' (stateL g.ins (afterL g.ins l p.1))
         have hm35:=fun B=>sf35 g B hl hw false (afterL g.ins l p.1) (by omega) hal L' p3 (by omega)
         simp only[meetH,meetC]at hm35
         simp only[nextL]at hrt
         generalize meetL L' (stateL g.ins (afterL g.ins l p.1))=L2 at *
         generalize afterL g.ins l p.1=ns at *
         by_cases hbig2:1024 < L2.length
         ·have hbad:1024 < (statesFrom g.ins (repsA cls) 0 L0).length:=by
           rw[← q5,hstep]
           have h1:=states_len g.ins (repsA cls) (k+1) (rowL g.ins l (repsA cls) L)
           have h2:L2.length≤(rowL g.ins l (repsA cls) L).length:=by
            have e:rowL g.ins l (repsA cls) L=rowL g.ins l ((repsA cls).drop (j+1)) (rowL g.ins l ((repsA cls).take (j+1)) L):=by
             unfold rowL
             rw[← List.foldl_append,List.take_append_drop]
            rw[e,hrt]
            exact rowL_len _ _ _ _
           omega
          rw[hfull,if_pos hbad]
          simp +contextual (disch:=omega) only[Tryz.f13,dd13,go_sem,simprocAttr,evAppend,mu13,↓wrap_up,↓wrap_down,↓wrap_pred,↓wrap_sub_nat,meetH,meetC,hlk',hcj',hp0',hnx,hm35]
          repeat' (first|intro _|apply And.intro|(unfold dOk;kernel_rfl)|exact St.beq_refl _|(show altO _ _ _ _=true;kernel_rfl)|(show (_ || _)=true;kernel_rfl)|(show (_ && _)=true;kernel_rfl))
          all_goals exact⟨_,rfl⟩
         ·simp +contextual (disch:=omega) only[Tryz.f13,dd13,go_sem,simprocAttr,evAppend,mu13,↓wrap_up,↓wrap_down,↓wrap_pred,↓wrap_sub_nat,meetH,meetC,hlk',hcj',hp0',hnx,hm35]
          repeat' (first|intro _|apply And.intro|(unfold dOk;kernel_rfl)|exact St.beq_refl _|(show altO _ _ _ _=true;kernel_rfl)|(show (_ || _)=true;kernel_rfl)|(show (_ && _)=true;kernel_rfl))
          all_goals exact⟨⟨j+1,L2,0⟩,⟨hj,hso,by show L2.length≤1024;omega,hrt.symm⟩,by show cls.length - (j+1) < cls.length - j;omega,rfl⟩
        ·obtain rfl:j=cls.length:=by omega
         rw[List.take_of_length_le (by omega)]at p4
         rw[← p4]at hstep
         have hge:=rowL_len g.ins l (repsA cls) L
         rw[← p4]at hge
         simp +contextual (disch:=omega) only[Tryz.f13,dd13,go_sem,simprocAttr,evAppend,mu13,↓wrap_up,↓wrap_down,↓wrap_pred,↓wrap_sub_nat,meetH,meetC]
         exact⟨⟨k+1,L',0⟩,⟨by show k+1≤L'.length;omega,p3,p2,hstep.symm.trans q5⟩,by show 3000 - (k+1) < 3000 - k;omega,rfl⟩
       ·have hend:=states_end (ins:=g.ins) (reps:=repsA cls) (i:=k) (L:=L) (by omega)
        rw[hend]at q5
        rw[hfull,← q5,if_neg (by omega)]
        have hkl:k=L.length:=by omega
        subst hkl
        simp +contextual (disch:=omega) only[Tryz.f13,dd13,go_sem,simprocAttr,evAppend,mu13,↓wrap_up,↓wrap_down,↓wrap_pred,↓wrap_sub_nat,meetH,meetC]
        exact⟨_,rfl⟩
 ·have hfull:fullA g=(0,acceptG g):=by unfold fullA;rw[if_pos hacc]
  rw[hfull]
  generalize acceptG g=e at *
  simp +contextual (disch:=omega) only[Tryz.f13,dd13,go_sem,simprocAttr,evAppend,mu13,↓wrap_up,↓wrap_down,↓wrap_pred,↓wrap_sub_nat,h33]
  exact⟨_,rfl⟩
end
section
attribute [local go_sem] evAppend
open Go.Proofs Go.RowKit Go.IntWalk
set_option maxRecDepth 100000
set_option maxHeartbeats 4000000
structure PrgN (g:Prg) (a b:Nat):Prop where
 len:g.ins.length≤a
 sets:∀ i∈g.ins,i.set.length≤b
 caps:In64 g.caps
theorem get5 (a b c d e:Int) {j:Nat} (h:j < 5):([I a,I b,I c,I d,I e]:List AV)[j]?=some (I ([a,b,c,d,e].getD j 0)):=by
 rcases j with _|_|_|_|_|j
 all_goals first|rfl|omega
theorem get4 (a b c d:Int) {j:Nat} (h:j < 4):([I a,I b,I c,I d]:List AV)[j]?=some (I ([a,b,c,d].getD j 0)):=by
 rcases j with _|_|_|_|j
 all_goals first|rfl|omega
theorem fz_ms {id m tot:Nat} {ins:List Ins} {caps:Int} {runes:Bool} {H:List MB} (hr:getRow H id=some (5,ins.map insAV,0)) (hn:tot=ins.length) (hm:m≤tot) :
  ∃ H',fz (.agg [.ms id 5 tot 0 m,I caps,.bool runes]) H=some (.agg [.sl false ((ins.take m).map insAV),I caps,.bool runes],H'):=by
 subst hn
 simp only[fz,fzA_agg,fzL]
 rw[fzA_ms (n:=5) (k:=5) (ys:=(ins.take m).map insAV) hr (by simp) (by omega) (by
  rw[List.drop_zero,← List.map_take];exact fzL_plain _ _ _ (plain_ins _))]
 exact⟨_,rfl⟩
theorem all_ins5 (l:List Ins):((l.map insAV).all fun y=>decide (y.cells.length=5) && y.cells.all AV.ok)=true:=by
 simp only[List.all_eq_true,List.mem_map,Bool.and_eq_true,decide_eq_true_eq]
 rintro _ ⟨i,_,rfl⟩
 exact⟨rfl,fun x hx=>by
  simp only[AV.cells,List.mem_cons,List.not_mem_nil,or_false]at hx
  rcases hx with rfl|rfl|rfl|rfl|rfl<;>rfl⟩
theorem fz_all {id tot:Nat} {ins:List Ins} {caps:Int} {runes:Bool} {H:List MB} (hr:getRow H id=some (5,ins.map insAV,0)) (hn:tot=ins.length) :
  ∃ H',fz (.agg [.ms id 5 tot 0 tot,I caps,.bool runes]) H=some (prgAV ⟨ins,caps,runes⟩,H'):=by
 obtain⟨H',h⟩:=fz_ms (caps:=caps) (runes:=runes) hr hn (Nat.le_refl _)
 rw[hn,List.take_length]at h
 rw[hn]
 exact⟨H',h⟩
theorem fzL_append {j:List AV→List MB→Option (List AV×List MB)} (ys:List AV):∀(xs:List AV) (H:List MB),fzL j (xs++ys) H=(match fzL j xs H with
  | some (a,H1)=>(match fzL j ys H1 with
    | some (b,H2)=>some (a++b,H2)
    | none=>none)
  | none=>none)
 | [],H=>by
   simp only[List.nil_append,fzL]
   cases fzL j ys H with
   | none=>rfl
   | some q=>rfl
 | x::xs,H=>by
   simp only[List.cons_append,fzL]
   cases fzA j x H with
   | none=>rfl
   | some q=>
     simp only[fzL_append ys xs q.2]
     cases fzL j xs q.2 with
     | none=>rfl
     | some q2=>
       simp only[]
       cases fzL j ys q2.2 with
       | none=>rfl
       | some q3=>rfl
theorem fz_set {tot m i:Nat} {ins:List Ins} {op px py pn caps:Int} {runes:Bool} {sp:List (Int×Int)} {r0 r1:MB} (hi:i < ins.length) (hn:tot=ins.length) (hm:m=sp.length) :
  ∃ H',fz (.agg [.ms 2 5 tot 0 tot,I caps,.bool runes]) [r0,r1,.row 5 ((ins.map insAV).set i (.agg [I op,I px,I py,I pn,.ms 3 2 m 0 m])) 0,.row 2 (sp.map spanAV) 0] =
    some (prgAV ⟨ins.set i ⟨op,px,py,pn,sp⟩,caps,runes⟩,H'):=by
 subst hn;subst hm
 obtain⟨E,hE⟩:∃ E,(ins.map insAV).set i (.agg [I op,I px,I py,I pn,.ms 3 2 sp.length 0 sp.length])=E:=⟨_,rfl⟩
 have hl:E.length=ins.length:=by rw[← hE];simp
 have ht:E=(ins.take i).map insAV++(.agg [I op,I px,I py,I pn,.ms 3 2 sp.length 0 sp.length])::(ins.drop (i+1)).map insAV:=by
  rw[← hE,List.set_eq_take_append_cons_drop,if_pos (by simpa using hi),List.map_take,List.map_drop]
 rw[hE]
 have hsp:∀(j:Nat) (H:List MB),getRow H 3=some (2,sp.map spanAV,0)→fzA (fzJ (j+1)) (.ms 3 2 sp.length 0 sp.length) H=some (.sl false (sp.map spanAV),mark H 3 (0+sp.length)):=fun j H h=>
  fzA_ms h (by simp) (by simp) (by rw[List.drop_zero,List.take_of_length_le (by simp)];exact fzL_plain _ _ _ (plain_span _))
 have hrow:∃ H',fzL (fzJ 5) E [r0,r1,.row 5 E (max 0 (0+ins.length)),.row 2 (sp.map spanAV) 0]=some ((ins.set i ⟨op,px,py,pn,sp⟩).map insAV,H'):=by
  generalize hHH:([r0,r1,.row 5 E (max 0 (0+ins.length)),.row 2 (sp.map spanAV) 0]:List MB)=HH
  have h3:getRow HH 3=some (2,sp.map spanAV,0):=by rw[← hHH];rfl
  rw[ht,fzL_append,fzL_plain _ _ _ (plain_ins _)]
  simp only[fzL,fzA_agg,fzA_int,hsp 4 HH h3,fzL_plain _ _ _ (plain_ins _)]
  refine⟨mark HH 3 (0+sp.length),?_⟩
  rw[List.map_set,List.set_eq_take_append_cons_drop,if_pos (by simpa using hi),List.map_take,List.map_drop]
 obtain⟨H',hrow⟩:=hrow
 simp only[fz,fzA_agg,fzL]
 rw[fzA_ms (n:=5) (k:=5) (z:=0) (els:=E) (ys:=(ins.set i ⟨op,px,py,pn,sp⟩).map insAV) (H':=H') rfl hl (by simp) (by
  rw[List.drop_zero,List.take_of_length_le (by rw[hl];exact Nat.le_refl _)];exact hrow)]
 exact⟨_,rfl⟩
theorem all_span2 (l:List (Int×Int)):((l.map spanAV).all fun y=>decide (y.cells.length=2) && y.cells.all AV.ok)=true:=by
 simp only[List.all_eq_true,List.mem_map,Bool.and_eq_true,decide_eq_true_eq]
 rintro _ ⟨i,_,rfl⟩
 exact⟨rfl,fun x hx=>by
  simp only[AV.cells,List.mem_cons,List.not_mem_nil,or_false]at hx
  rcases hx with rfl|rfl<;>rfl⟩
theorem in64_get (l:List Int) (j:Nat) (h:∀ x∈l,In64 x):In64 (l.getD j 0):=by
 rw[List.getD_eq_getElem?_getD]
 cases hj:l[j]? with
 | none=>exact⟨by simp,by simp⟩
 | some y=>exact h y (List.mem_of_getElem? hj)
theorem f28 (g:Prg) (a b:Nat) (ha:a≤1000000) (hb:b≤1000000) (hg:PrgN g a b) (pos how by_:Int) (h1:In64 pos) (h2:In64 how) (h3:In64 by_) :
  ∃ r,(∃ g',PrgN g' a (b+1)∧r=prgAV g')∧∀ H,call Tryz.prog pol1 12 [.agg [.sl false (g.ins.map insAV),I g.caps,.bool g.runes],I pos,I how,I by_] H=some (r,H):=by
 obtain⟨ins,caps,runes⟩:=g
 obtain⟨hl,hs,hc⟩:=hg
 simp only[]at hl hs hc
 refine call_runA Tryz.func12 rfl rfl rfl rfl rfl rfl (fun _=>rfl) (by simp[AV.plain,AV.plainL,plain_ints,plain_span,plain_ins,plain_prg]) ?_ ?_
 ·rintro _ ⟨g,_,rfl⟩;exact plain_prg g
 cases ins with
 | nil=>
   simp +contextual (disch:=omega) only[Tryz.f12,dd12,go_sem,simprocAttr,mu12,↓wrap_up,↓wrap_down,↓wrap_pred,↓wrap_sub_nat]
   exact⟨_,⟨⟨[],caps,runes⟩,⟨by simp,by simp,hc⟩,rfl⟩,_,rfl⟩
 | cons x xs=>
   simp only[List.length_cons]at hl
   have hf:=fun(n m:Int) (hn:In64 n) (hm:m≠0)=>f12 n m hn hm
   have hi:=around_lt (n:=pos) (m:=((xs.length+1:Nat):Int)) (by omega)
   have hfi:=f12 pos ((xs.length+1:Nat):Int) h1 (by omega)
   obtain⟨i,hie,hil⟩:∃ i:Nat,aroundI pos ((xs.length+1:Nat):Int)=i∧i < xs.length+1:=⟨(aroundI pos ((xs.length+1:Nat):Int)).toNat,by omega,by omega⟩
   rw[hie]at hfi
   obtain⟨p,hp⟩:∃ p,(x::xs)[i]?=some p:=⟨_,List.getElem?_eq_getElem hil⟩
   have hp':(insAV x::List.map insAV xs)[i]?=some (insAV p):=by
    have:((x::xs).map insAV)[i]?=some (insAV p):=by rw[List.getElem?_map,hp];rfl
    exact this
   have h5:=around_lt (n:=by_) (m:=5) (by omega)
   have h4:=around_lt (n:=by_) (m:=4) (by omega)
   obtain⟨j5,e5,l5⟩:∃ j:Nat,aroundI by_ 5=j∧j < 5:=⟨(aroundI by_ 5).toNat,by omega,by omega⟩
   obtain⟨j4,e4,l4⟩:∃ j:Nat,aroundI by_ 4=j∧j < 4:=⟨(aroundI by_ 4).toNat,by omega,by omega⟩
   have f5:=f12 by_ 5 h3 (by omega)
   have f4:=f12 by_ 4 h3 (by omega)
   rw[e5]at f5
   rw[e4]at f4
   have hh:=around_lt (n:=how) (m:=8) (by omega)
   have fh:=f12 how 8 h2 (by omega)
   generalize aroundI how 8=k at *
   have hst:∀ q:Ins,(insAV x::List.map insAV xs).set i (insAV q)=((x::xs).set i q).map insAV:=fun q=>by
    rw[List.map_set];rfl
   have hal:=all_ins5 (x::xs)
   have hroom:roomFor (xs.length+1) 56=true:=by simp[roomFor];omega
   have hps:p.set.length≤b:=hs p (List.mem_of_getElem? hp)
   have hnew:∀ q:Ins,q.set.length≤b+1→∀ c,In64 c→∀ r,PrgN ⟨(x::xs).set i q,c,r⟩ a (b+1):=fun q hq c hc r=>⟨by simp;omega,fun y hy=>by
    rcases List.mem_or_eq_of_mem_set hy with h|h
    ·have:=hs y h;omega
    ·rw[h];exact hq,hc⟩
   rcases(by omega:k=0∨k=1∨k=2∨k=3∨k=4∨k=5∨k=6∨k=7) with rfl|rfl|rfl|rfl|rfl|rfl|rfl|rfl
   ·simp +contextual (disch:=omega) only[Tryz.f12,dd12,go_sem,simprocAttr,mu12,↓wrap_up,↓wrap_down,↓wrap_pred,↓wrap_sub_nat,hfi,fh,hp',f5,get5,l5,f4,get4,l4]
    refine⟨hal,hroom,?_⟩
    exact⟨_,⟨⟨(x::xs).set i ⟨[by_,-1,6,1,4].getD j5 0,p.x,p.y,p.n,p.set⟩,caps,runes⟩,hnew ⟨[by_,-1,6,1,4].getD j5 0,p.x,p.y,p.n,p.set⟩ (by simp only[];omega) _ hc _,rfl⟩,fz_all (congrArg (fun z=>some (5,z,0)) (hst ⟨[by_,-1,6,1,4].getD j5 0,p.x,p.y,p.n,p.set⟩)) (by simp)⟩
   ·simp +contextual (disch:=omega) only[Tryz.f12,dd12,go_sem,simprocAttr,mu12,↓wrap_up,↓wrap_down,↓wrap_pred,↓wrap_sub_nat,hfi,fh,hp',f5,get5,l5,f4,get4,l4]
    refine⟨hal,hroom,?_⟩
    exact⟨_,⟨⟨(x::xs).set i ⟨p.op,[by_,-1,((xs.length+1:Nat):Int),(xs.length:Int)].getD j4 0,p.y,p.n,p.set⟩,caps,runes⟩,hnew ⟨p.op,[by_,-1,((xs.length+1:Nat):Int),(xs.length:Int)].getD j4 0,p.y,p.n,p.set⟩ (by simp only[];omega) _ hc _,rfl⟩,fz_all (congrArg (fun z=>some (5,z,0)) (hst ⟨p.op,[by_,-1,((xs.length+1:Nat):Int),(xs.length:Int)].getD j4 0,p.y,p.n,p.set⟩)) (by simp)⟩
   ·simp +contextual (disch:=omega) only[Tryz.f12,dd12,go_sem,simprocAttr,mu12,↓wrap_up,↓wrap_down,↓wrap_pred,↓wrap_sub_nat,hfi,fh,hp',f5,get5,l5,f4,get4,l4]
    refine⟨hal,hroom,?_⟩
    exact⟨_,⟨⟨(x::xs).set i ⟨p.op,p.x,[by_,-1,((xs.length+1:Nat):Int),0].getD j4 0,p.n,p.set⟩,caps,runes⟩,hnew ⟨p.op,p.x,[by_,-1,((xs.length+1:Nat):Int),0].getD j4 0,p.n,p.set⟩ (by simp only[];omega) _ hc _,rfl⟩,fz_all (congrArg (fun z=>some (5,z,0)) (hst ⟨p.op,p.x,[by_,-1,((xs.length+1:Nat):Int),0].getD j4 0,p.n,p.set⟩)) (by simp)⟩
   ·simp +contextual (disch:=omega) only[Tryz.f12,dd12,go_sem,simprocAttr,mu12,↓wrap_up,↓wrap_down,↓wrap_pred,↓wrap_sub_nat,hfi,fh,hp',f5,get5,l5,f4,get4,l4]
    refine⟨hal,hroom,by unfold dOk;kernel_rfl,by kernel_rfl,?_⟩
    exact⟨_,⟨⟨(x::xs).set i ⟨p.op,p.x,p.y,[by_,-1,5,6,IntKind.i64.wrap (2 * caps)].getD j5 0,p.set⟩,caps,runes⟩,hnew ⟨p.op,p.x,p.y,[by_,-1,5,6,IntKind.i64.wrap (2 * caps)].getD j5 0,p.set⟩ (by simp only[];omega) _ hc _,rfl⟩,fz_all (congrArg (fun z=>some (5,z,0)) (hst ⟨p.op,p.x,p.y,[by_,-1,5,6,IntKind.i64.wrap (2 * caps)].getD j5 0,p.set⟩)) (by simp)⟩
   ·obtain⟨op,px,py,pn,set⟩:=p
    simp only[]at hps
    cases set with
    | nil=>
      simp +contextual (disch:=omega) only[Tryz.f12,dd12,go_sem,simprocAttr,mu12,↓wrap_up,↓wrap_down,↓wrap_pred,↓wrap_sub_nat,hfi,fh,hp',f5,get5,l5,f4,get4,l4]
      refine⟨hal,hroom,rfl,?_⟩
      exact⟨_,⟨⟨(x::xs).set i ⟨op,px,py,pn,[(by_,[by_,255,256,1114111,1114112].getD j5 0)]⟩,caps,runes⟩,hnew _ (by simp) _ hc _,rfl⟩,fz_set (ins:=x::xs) (sp:=[(by_,_)]) hil rfl rfl⟩
    | cons y ys=>
      simp +contextual (disch:=omega) only[Tryz.f12,dd12,go_sem,simprocAttr,mu12,↓wrap_up,↓wrap_down,↓wrap_pred,↓wrap_sub_nat,hfi,fh,hp',f5,get5,l5,f4,get4,l4]
      have e1:spanAV y::(List.take ys.length (List.map spanAV ys)++[AV.agg [I by_,I ([by_,255,256,1114111,1114112].getD j5 0)]]) =
       (y::(ys++[(by_,[by_,255,256,1114111,1114112].getD j5 0)])).map spanAV:=by
       rw[List.take_of_length_le (by simp)];simp
      rw[e1]
      simp only[List.length_cons]at hps
      refine⟨hal,hroom,all_span2 (y::ys),by simp[roomFor];omega,by simp[roomFor];omega,?_⟩
      exact⟨_,⟨⟨(x::xs).set i ⟨op,px,py,pn,y::(ys++[(by_,[by_,255,256,1114111,1114112].getD j5 0)])⟩,caps,runes⟩,hnew _ (by simp;omega) _ hc _,rfl⟩,fz_set (ins:=x::xs) (sp:=y::(ys++[(by_,_)])) hil rfl (by simp)⟩
   ·simp +contextual (disch:=omega) only[Tryz.f12,dd12,go_sem,simprocAttr,mu12,↓wrap_up,↓wrap_down,↓wrap_pred,↓wrap_sub_nat,hfi,fh,hp',f5,get5,l5,f4,get4,l4]
    refine⟨hal,hroom,?_⟩
    exact⟨_,⟨⟨x::xs,[by_,-1,9,10].getD j4 0,runes⟩,⟨by simp;omega,fun y hy=>by have:=hs y hy;omega,in64_get _ _ (by intro z hz;simp at hz;rcases hz with rfl|rfl|rfl|rfl<;>first|exact h3|exact⟨by omega,by omega⟩)⟩,rfl⟩,fz_all rfl (by simp)⟩
   ·simp +contextual (disch:=omega) only[Tryz.f12,dd12,go_sem,simprocAttr,mu12,↓wrap_up,↓wrap_down,↓wrap_pred,↓wrap_sub_nat,hfi,fh,hp',f5,get5,l5,f4,get4,l4]
    refine⟨hal,hroom,?_⟩
    exact⟨_,⟨⟨(x::xs).take (xs.length - 0),caps,runes⟩,⟨by simp;omega,fun y hy=>by have:=hs y (List.mem_of_mem_take hy);omega,hc⟩,rfl⟩,fz_ms (ins:=x::xs) rfl (by simp) (by omega)⟩
   ·simp +contextual (disch:=omega) only[Tryz.f12,dd12,go_sem,simprocAttr,mu12,↓wrap_up,↓wrap_down,↓wrap_pred,↓wrap_sub_nat,hfi,fh,hp',f5,get5,l5,f4,get4,l4]
    refine⟨hal,hroom,?_⟩
    exact⟨_,⟨⟨x::xs,caps,!runes⟩,⟨by simp;omega,fun y hy=>by have:=hs y hy;omega,hc⟩,rfl⟩,fz_all rfl (by simp)⟩
end
section
attribute [local go_sem] evAppend
open Go.Proofs Go.RowKit Go.IntWalk
set_option maxRecDepth 100000
set_option maxHeartbeats 4000000
def T24 (caps:Int) (runes:Bool) (g:AV):List Ins→St
 | []=>(⟨40,[(4,I 0),(3,.rf 2 1 0 0),(2,.rf 1 1 0 0),(1,.rf 0 1 0 0)],[.row 3 [g] 0,.row 3 [.agg [.sl true [],I 0,.bool false]] 0,.row 3 [.agg [.sl true [],I caps,.bool runes]] 0]⟩:St)
 | x::xs=>(⟨40,[(4,I ((xs.length+1:Nat):Int)),(3,.rf 2 1 0 0),(2,.rf 1 1 0 0),(1,.rf 0 1 0 0)],[.row 3 [g] 0,.row 3 [.agg [.sl true [],I 0,.bool false]] 0,.row 3 [.agg [.ms 4 5 (xs.length+1) 0 (xs.length+1),I caps,.bool runes]] 0,.row 5 [insAV x] 0,.row 5 (insAV x::xs.map insAV) 0]⟩:St)
theorem f24 (g:Prg) (hl:g.ins.length≤1000000) (H:List MB):call Tryz.prog pol1 14 [prgAV g] H=some (prgAV g,H):=by
 refine call_run Tryz.func14 rfl rfl rfl rfl rfl rfl (fun _=>rfl) (by simp[AV.plain,AV.plainL,plain_ints,plain_span,plain_ins,plain_prg]) (by simp[AV.plain,AV.plainL,plain_ints,plain_span,plain_ins,plain_prg]) ?_ H
 simp +contextual (disch:=omega) only[Tryz.f14,dd14,go_sem,simprocAttr,mu14,↓wrap_up,↓wrap_down,↓wrap_pred,↓wrap_sub_nat]
 refine W_count (M:=(mskOf (pol1.mask 14) (pol1.gc 14) (pol1.acts 14) 0 3)) rfl g.ins.length (fun i=>T24 g.caps g.runes (prgAV g) (g.ins.take i)) (fun i=>True) ?_ ?_ trivial _ (by first|rfl|(refine prep_cut rfl (by rfl) (by rfl) (by rfl) ?_ ?_<;>simp[AV.underL,AV.under,MB.under,underL_plain,under_plain,plain_ints,plain_span,plain_ins,plain_prg,-List.map_take]))
 ·intro i hi _
  obtain⟨p,hp⟩:∃ p,g.ins[i]?=some p:=⟨_,List.getElem?_eq_getElem hi⟩
  have hlen:(g.ins.take i).length=i:=by simp;omega
  rw[List.take_add_one,hp]
  generalize g.ins.take i=xs at *
  cases xs with
  | nil=>
    simp only[List.length_nil]at hlen
    subst hlen
    simp only[T24]
    simp +contextual (disch:=omega) only[Tryz.f14,dd14,go_sem,simprocAttr,mu14,↓wrap_up,↓wrap_down,↓wrap_pred,↓wrap_sub_nat,hp]
    exact⟨by simp[roomFor],(by first|rfl|(refine prep_cut rfl (by rfl) (by rfl) (by rfl) ?_ ?_<;>simp[AV.underL,AV.under,MB.under,underL_plain,under_plain,plain_ints,plain_span,plain_ins,plain_prg,-List.map_take]))⟩
  | cons x xs=>
    simp only[List.length_cons]at hlen
    subst hlen
    simp only[T24]
    simp +contextual (disch:=omega) only[Tryz.f14,dd14,go_sem,simprocAttr,mu14,↓wrap_up,↓wrap_down,↓wrap_pred,↓wrap_sub_nat,hp]
    refine⟨by simp[roomFor];omega,?_⟩
    refine prep_cut (n:=5) rfl (by rfl) rfl ?_ ?_ ?_
    ·simp[List.take_of_length_le]
    ·simp[AV.underL,AV.under]
    ·simp[AV.underL,AV.under,MB.under,underL_plain,under_plain,plain_span,plain_ins,plain_prg,underL_append]
 ·intro _
  rw[List.take_length]
  rcases g with ⟨ins,caps,runes⟩
  cases ins with
  | nil=>
    simp only[T24]
    simp +contextual (disch:=omega) only[Tryz.f14,dd14,go_sem,simprocAttr,mu14,↓wrap_up,↓wrap_down,↓wrap_pred,↓wrap_sub_nat]
    exact⟨_,rfl⟩
  | cons x xs=>
    simp only[T24]
    simp +contextual (disch:=omega) only[Tryz.f14,dd14,go_sem,simprocAttr,mu14,↓wrap_up,↓wrap_down,↓wrap_pred,↓wrap_sub_nat]
    simp only[fz,fzA_agg,fzL]
    rw[fzA_ms (n:=5) (els:=insAV x::xs.map insAV) (k:=5) (z:=0) rfl (by simp) (by simp)
     (by rw[List.drop_zero,List.take_of_length_le (by simp)];exact fzL_plain _ _ _ (plain_ins (x::xs)))]
    exact⟨_,rfl⟩
end
end Go.Ev
