/- Functions of the program, each with what it computes; no further conditions. -/
import Derived.Test.YtjgmfjneajcbmaaGreatF06
import Derived.Test.YtjgmfjneajcbmaaGreatF14
import Derived.Test.YtjgmfjneajcbmaaGreatF13
set_option linter.unusedVariables false
set_option linter.unusedSimpArgs false
namespace Go.Ev
attribute [local go_sem] W_block evBin AV.cells frzB List.length_append List.map_append tySzE List.head?_drop Nat.mul_one sameAt_zero sameAt_two sameAt_three sameAt_four sameAt_five room_ok
section
open Go.Proofs Go.RowKit Go.IntWalk
set_option maxRecDepth 100000
set_option maxHeartbeats 4000000
theorem kf60h (l:List Nat) (n:Nat) (hl:l.length≤4000000000) (H:List MB):call Tryz.prog pol1 60 [.sl false (l.map NV),NV n] H=some (.bool (decide (n∈l)),H):=by
 have hpl:=plain_nv l
 refine call_run Tryz.func60 rfl rfl rfl rfl rfl rfl (fun _=>rfl) (by simp[AV.plain,AV.plainL,hpl]) (by simp[AV.plain]) ?_ H
 simp +contextual (disch:=omega) only[Tryz.f60,dd60,go_sem,simprocAttr,evAppend,mu60,↓wrap_up,↓wrap_down,↓wrap_pred,↓wrap_sub_nat]
 refine W_count (M:=(mskOf (pol1.mask 60) (pol1.gc 60) (pol1.acts 60) 0 2)) rfl l.length (fun i=>(⟨18,[(5,I i),(1,NV n),(0,.sl false (l.map NV))],[]⟩:St)) (fun i=>∀ k m,k < i→l[k]?=some m→m≠n) ?_ ?_ (fun k p h=>by omega) _ (by first|rfl|(refine prep_cut rfl (by rfl) (by rfl) (by rfl) ?_ ?_<;>simp[AV.underL,AV.under,MB.under,underL_plain,under_plain,plain_ints,plain_span,plain_ins,plain_prg,-List.map_take]))
 ·intro i hi hg
  obtain⟨m,hm⟩:∃ m,l[i]?=some m:=⟨_,List.getElem?_eq_getElem hi⟩
  have hm':(l.map NV)[i]?=some (NV m):=by simp[hm]
  by_cases he:m=n
  ·subst he
   have hd:decide (m∈l)=true:=decide_eq_true (List.mem_of_getElem? hm)
   rw[hd]
   simp +contextual (disch:=omega) only[Tryz.f60,dd60,go_sem,simprocAttr,evAppend,mu60,↓wrap_up,↓wrap_down,↓wrap_pred,↓wrap_sub_nat,hm']
   exact fzEq rfl rfl
  ·have hne:(m:Int)≠n:=by omega
   simp +contextual (disch:=omega) only[Tryz.f60,dd60,go_sem,simprocAttr,evAppend,mu60,↓wrap_up,↓wrap_down,↓wrap_pred,↓wrap_sub_nat,hm']
   refine⟨fun k q hk hq=>?_,(by first|rfl|(refine prep_cut rfl (by rfl) (by rfl) (by rfl) ?_ ?_<;>simp[AV.underL,AV.under,MB.under,underL_plain,under_plain,plain_ints,plain_span,plain_ins,plain_prg,-List.map_take]))⟩
   rcases Nat.lt_or_ge k i with h|h
   ·exact hg k q h hq
   ·obtain rfl:k=i:=by omega
    rw[hm]at hq
    obtain rfl:=Option.some.inj hq
    exact he
 ·intro hg
  have hd:decide (n∈l)=false:=decide_eq_false fun hn=>by
   obtain⟨k,hk,e⟩:=List.getElem_of_mem hn
   exact hg k n hk (by rw[← e];exact List.getElem?_eq_getElem hk) rfl
  rw[hd]
  simp +contextual (disch:=omega) only[Tryz.f60,dd60,go_sem,simprocAttr,evAppend,mu60,↓wrap_up,↓wrap_down,↓wrap_pred,↓wrap_sub_nat]
  exact fzEq rfl rfl
abbrev hpR (b0:MB) (s:List Nat×List Nat) (z:Nat) (K:List MB):List MB:=b0::.row 1 (s.1.map NV) 0::.row 1 (s.2.map NV) z::K
theorem kf60m (b0:MB) (s:List Nat×List Nat) (z n:Nat) (hz:z≤s.2.length) (hs:s.2.length≤4000000000) (K:List MB) :
  call Tryz.prog pol1 60 [.ms 2 1 s.2.length 0 s.2.length,NV n] (hpR b0 s z K)=some (.bool (decide (n∈s.2)),hpR b0 s s.2.length K):=by
 have hrow:getRow (hpR b0 s z K) 2=some (1,s.2.map NV,z):=rfl
 have hz:=fz_row (tot:=s.2.length) hrow (by simp) (plain_nv _)
 have hm:mark (hpR b0 s z K) 2 s.2.length=hpR b0 s s.2.length K:=by
  unfold mark
  rw[hrow]
  simp only[hpR]
  rw[Nat.max_eq_right (by omega)]
  rfl
 rw[hm]at hz
 rw[call_frz2 (l:=[.sl false (s.2.map NV),NV n]) rfl ?_ (by simp[AV.plainL,AV.plain,plain_nv])]
 ·exact kf60h _ _ hs _
 ·have h1:pol1.byref 60 0=false:=rfl
  have h2:pol1.byref 60 (0+1)=false:=rfl
  simp only[frzArgs,h1,h2,Bool.false_eq_true,if_false,hz]
  rfl
theorem app_nz {H:List MB} {i n z:Nat} {rs:List Nat} {c:Nat} {t:Bool} (hi:getRow H i=some (1,rs.map NV,z)) (hz:z≤n) (hn:rs.length=n) (hr:n+1≤4000000000) :
  evAppend Tryz.prog H 22 22 (.ms i 1 n 0 n) (.sl t [NV c])=some (.ms i 1 (n+1) 0 (n+1),H.set i (.row 1 ((rs++[c]).map NV) z)):=by
 have hs:srcElems Tryz.prog H 3 (.sl t [NV c])=some [NV c]:=rfl
 rw[evAppend_end (e:=3) (by kernel_rfl) (by kernel_rfl) (k:=1) (by kernel_rfl) (by_:=8) (by kernel_rfl) (ze:=I 0) (by kernel_rfl) rfl (by omega) hs rfl hi (by rw[List.length_map];exact hn) hz (room_ok (by simpa using hr) (by omega))]
 rw[List.map_append]
 rfl
theorem getM1 (K:List MB) (x y:MB):(K++[x]++[y])[K.length]?=some x:=by simp
theorem getM2 (K:List MB) (x y:MB):(K++[x]++[y])[K.length+1]?=some y:=by simp
theorem setM2 (K:List MB) (x y z:MB):(K++[x]++[y]).set (K.length+1) z=K++[x]++[z]:=by
 rw[List.set_append_right _ _ (by simp)];simp
theorem kf75 (g:Prg) (hl:g.ins.length≤8192) (hw:Leads g.ins) (ho:∀ i∈g.ins,i.op=0∨i.op=1∨i.op=2∨i.op=3∨i.op=4) :
  ∀(k n:Nat) (s:List Nat×List Nat) (b0:MB) (z:Nat) (K:List MB),n < g.ins.length→ROk g.ins.length s→z≤s.2.length→g.ins.length < k+s.2.length →
  ∃ r,(∃ z' K',z'≤(rvisit g.ins k n s).2.length∧r=(AV.tup [.ms 1 1 (rvisit g.ins k n s).1.length 0 (rvisit g.ins k n s).1.length,.ms 2 1 (rvisit g.ins k n s).2.length 0 (rvisit g.ins k n s).2.length],hpR b0 (rvisit g.ins k n s) z' (K++K'))) ∧
    call Tryz.prog pol1 75 [prgAV g,.ms 1 1 s.1.length 0 s.1.length,.ms 2 1 s.2.length 0 s.2.length,NV n] (hpR b0 s z K)=some r:=by
 intro k
 induction k with
 | zero=>intro n s b0 z K _ hk _ h;have:=hk.small;omega
 | succ k ih=>
   intro n s b0 z K hn hk hz hopen
   have rp:∀ H1 r H,retPol pol1 75 H1 r H=some (r,H):=fun H1 r H=>rfl
   have hsm:=hk.small
   have hone:=hk.one
   have hgl:=fun x:MB=>kget_last K x
   have hpg:=plain_prg g
   have hH:=fun b K'=>kf60m b s z n hz (by omega) (K++K')
   refine call_run2E (pol:=pol1) Tryz.func75 rfl rfl rfl rfl (frzArgs_mix _ _ _ (by simp only[mixOk,hpg,Bool.or_true,Bool.true_and];rfl)) ?_
   obtain⟨i,hi⟩:∃ i,g.ins[n]?=some i:=⟨_,List.getElem?_eq_getElem hn⟩
   have hi':(g.ins.map insAV)[n]?=some (insAV i):=by simp[hi]
   by_cases hs:n∈s.2
   ·have e:rvisit g.ins (k+1) n s=s:=by simp only[rvisit];rw[if_pos hs]
    rw[e]
    have hd:decide (n∈s.2)=true:=decide_eq_true hs
    rw[hd]at hH
    simp only[hpR]at hH
    simp +contextual (disch:=omega) only[Tryz.f75,dd75,go_sem,simprocAttr,evAppend,mu75,↓wrap_up,↓wrap_down,↓wrap_pred,↓wrap_sub_nat,hH,hgl]
    exact⟨_,⟨_,_,Nat.le_refl _,rfl⟩,rp _ _ _⟩
   have hd:decide (n∈s.2)=false:=decide_eq_false hs
   rw[hd]at hH
   simp only[hpR]at hH
   rw[show rvisit g.ins (k+1) n s=_ by simp only[rvisit];rw[if_neg hs],hi]
   simp only
   have g1:=fun x y:MB=>getM1 K x y
   have g2:=fun x y:MB=>getM2 K x y
   have g3:=fun x y z:MB=>setM2 K x y z
   have happ:∀(T:List MB) (t:Bool),evAppend Tryz.prog (b0::.row 1 (s.1.map NV) 0::.row 1 (s.2.map NV) s.2.length::T) 22 22 (.ms 2 1 s.2.length 0 s.2.length) (.sl t [NV n]) =
     some (.ms 2 1 (s.2.length+1) 0 (s.2.length+1),b0::.row 1 (s.1.map NV) 0::.row 1 (s.2.map NV++[NV n]) s.2.length::T):=by
    intro T t
    rw[app_nz (rs:=s.2) (z:=s.2.length) rfl (Nat.le_refl _) rfl (by omega),List.map_append];rfl
   have happ1:∀(T:List MB) (t:Bool),evAppend Tryz.prog (b0::.row 1 (s.1.map NV) 0::T) 22 22 (.ms 1 1 s.1.length 0 s.1.length) (.sl t [NV n]) =
     some (.ms 1 1 (s.1.length+1) 0 (s.1.length+1),b0::.row 1 (s.1.map NV++[NV n]) 0::T):=by
    intro T t
    rw[app_nz (rs:=s.1) (z:=0) rfl (Nat.zero_le _) rfl (by omega),List.map_append];rfl
   have hm:=hk.mark hn hs
   obtain⟨w0,w1,w2,w3⟩:=hw n i hi
   have hop:=ho i (List.mem_of_getElem? hi)
   by_cases h2:i.op=2
   ·rw[if_pos h2]
    obtain⟨x1,x2⟩:=w1 (.inl h2)
    obtain⟨y1,y2⟩:=w2 h2
    obtain⟨x,hx⟩:∃ x:Nat,i.x=x:=⟨i.x.toNat,by omega⟩
    obtain⟨y,hy⟩:∃ y:Nat,i.y=y:=⟨i.y.toNat,by omega⟩
    rw[hx]at x2 ⊢
    rw[hy]at y2 ⊢
    simp only[Int.toNat_natCast]at x2 y2 ⊢
    obtain⟨_,⟨z1,K1,hz1,rfl⟩,hc1⟩:=ih x (s.1,s.2++[n]) b0 s.2.length (K++[.row 3 [prgAV g] 0]++[.row 5 [.agg [I 2,NV x,NV y,I i.n,.sl false (i.set.map spanAV)]] 0]) x2 hm (by simp) (by simp;omega)
    have hv:=hm.visit (k:=k) (n:=x)
    obtain⟨_,⟨z2,K2,hz2,rfl⟩,hc2⟩:=ih y (rvisit g.ins k x (s.1,s.2++[n])) b0 z1 (K++[.row 3 [prgAV g] 0]++[.row 5 [.agg [I 2,NV x,NV y,I i.n,.sl false (i.set.map spanAV)]] 0]++K1) y2 hv.1 hz1 (by have:=hv.2;simp at this;omega)
    simp only[hpR,List.length_append,List.length_cons,List.length_nil,Nat.zero_add,List.map_append,List.map_cons,List.map_nil]at hc1 hc2
    have g4:(K++[MB.row 3 [prgAV g] 0]++[.row 5 [.agg [I 2,NV x,NV y,I i.n,.sl false (i.set.map spanAV)]] 0]++K1)[K.length]?=some (.row 3 [prgAV g] 0):=by simp
    have g5:(K++[MB.row 3 [prgAV g] 0]++[.row 5 [.agg [I 2,NV x,NV y,I i.n,.sl false (i.set.map spanAV)]] 0]++K1)[K.length+1]?=some (.row 5 [.agg [I 2,NV x,NV y,I i.n,.sl false (i.set.map spanAV)]] 0):=by
     rw[List.getElem?_append_left (by simp),getM2]
    simp +contextual (disch:=omega) only[Tryz.f75,dd75,go_sem,simprocAttr,mu75,↓wrap_up,↓wrap_down,↓wrap_pred,↓wrap_sub_nat,hH,hgl,happ,hi',h2,hx,hy,g1,g2,g3,g4,g5,hc1,hc2]
    exact⟨_,⟨z2,[.row 3 [prgAV g] 0]++([.row 5 [.agg [I 2,NV x,NV y,I i.n,.sl false (i.set.map spanAV)]] 0]++(K1++K2)),hz2,by simp only[hpR,List.append_assoc]⟩,rp _ _ _⟩
   rw[if_neg h2]
   by_cases h3:i.op=3
   ·rw[if_pos h3]
    obtain⟨x1,x2⟩:=w1 (.inr h3)
    obtain⟨x,hx⟩:∃ x:Nat,i.x=x:=⟨i.x.toNat,by omega⟩
    rw[hx]at x2 ⊢
    simp only[Int.toNat_natCast]at x2 ⊢
    obtain⟨_,⟨z1,K1,hz1,rfl⟩,hc1⟩:=ih x (s.1,s.2++[n]) b0 s.2.length (K++[.row 3 [prgAV g] 0]++[.row 5 [.agg [I 3,NV x,I i.y,I i.n,.sl false (i.set.map spanAV)]] 0]) x2 hm (by simp) (by simp;omega)
    simp only[hpR,List.length_append,List.length_cons,List.length_nil,Nat.zero_add,List.map_append,List.map_cons,List.map_nil]at hc1
    simp +contextual (disch:=omega) only[Tryz.f75,dd75,go_sem,simprocAttr,mu75,↓wrap_up,↓wrap_down,↓wrap_pred,↓wrap_sub_nat,hH,hgl,happ,hi',h3,hx,g1,g2,g3,hc1]
    exact⟨_,⟨z1,[.row 3 [prgAV g] 0]++([.row 5 [.agg [I 3,NV x,I i.y,I i.n,.sl false (i.set.map spanAV)]] 0]++K1),hz1,by simp only[hpR,List.append_assoc]⟩,rp _ _ _⟩
   rw[if_neg h3]
   by_cases h4:i.op=4
   ·rw[if_pos h4]
    have x2:=w3 (.inr (.inl h4))
    obtain⟨_,⟨z1,K1,hz1,rfl⟩,hc1⟩:=ih (n+1) (s.1,s.2++[n]) b0 s.2.length (K++[.row 3 [prgAV g] 0]++[.row 5 [.agg [I 4,I i.x,I i.y,I i.n,.sl false (i.set.map spanAV)]] 0]) x2 hm (by simp) (by simp;omega)
    simp only[hpR,List.length_append,List.length_cons,List.length_nil,Nat.zero_add,List.map_append,List.map_cons,List.map_nil]at hc1
    simp +contextual (disch:=omega) only[Tryz.f75,dd75,go_sem,simprocAttr,mu75,↓wrap_up,↓wrap_down,↓wrap_pred,↓wrap_sub_nat,hH,hgl,happ,hi',h4,g1,g2,g3,hc1]
    exact⟨_,⟨z1,[.row 3 [prgAV g] 0]++([.row 5 [.agg [I 4,I i.x,I i.y,I i.n,.sl false (i.set.map spanAV)]] 0]++K1),hz1,by simp only[hpR,List.append_assoc]⟩,rp _ _ _⟩
   rw[if_neg h4]
   have h01:i.op=0∨i.op=1:=by omega
   rcases h01 with h0|h1
   ·simp +contextual (disch:=omega) only[Tryz.f75,dd75,go_sem,simprocAttr,mu75,↓wrap_up,↓wrap_down,↓wrap_pred,↓wrap_sub_nat,hH,hgl,happ,happ1,hi',h0,g1,g2,g3]
    refine⟨_,⟨s.2.length,[.row 3 [prgAV g] 0]++[.row 5 [.agg [I 0,I i.x,I i.y,I i.n,.sl false (i.set.map spanAV)]] 0],by omega,?_⟩,rp _ _ _⟩
    simp[hpR]
   ·simp +contextual (disch:=omega) only[Tryz.f75,dd75,go_sem,simprocAttr,mu75,↓wrap_up,↓wrap_down,↓wrap_pred,↓wrap_sub_nat,hH,hgl,happ,happ1,hi',h1,g1,g2,g3]
    refine⟨_,⟨s.2.length,[.row 3 [prgAV g] 0]++[.row 5 [.agg [I 1,I i.x,I i.y,I i.n,.sl false (i.set.map spanAV)]] 0],by omega,?_⟩,rp _ _ _⟩
    simp[hpR]
theorem kf40 (g:Prg) (hl:g.ins.length≤8192) (hw:Leads g.ins) (ho:∀ i∈g.ins,i.op=0∨i.op=1∨i.op=2∨i.op=3∨i.op=4) (ns:List Nat) (hnl:ns.length≤1000000) (hns:∀ n∈ns,n < g.ins.length) (H:List MB) :
  call Tryz.prog pol1 40 [prgAV g,.sl false (ns.map NV)] H=some (.sl false ((stateL g.ins ns).map NV),H):=by
 have hpg:=plain_prg g
 have hpn:=plain_nv ns
 have hpi:=plain_ins g.ins
 have h75:=kf75 g hl hw ho
 have hrok:=fun i=>(rok0 g.ins.length).visits (k:=g.ins.length+1) (ns:=ns.take i)
 refine call_run Tryz.func40 rfl rfl rfl rfl rfl rfl (fun _=>rfl) (by simp[AV.plainL,AV.plain,hpn,hpi]) (by simp[AV.plain,plain_nv]) ?_ H
 simp +contextual (disch:=omega) only[Tryz.f40,dd40,go_sem,simprocAttr,evAppend,mu40,↓wrap_up,↓wrap_down,↓wrap_pred,↓wrap_sub_nat]
 have huR:∀(s:List Nat×List Nat) (z:Nat),(hpR (.row 3 [prgAV g] 0) s z []).all (MB.under 3)=true:=by
  intro s z
  have p1:=fun n=>underL_plain n _ (plain_nv s.1)
  have p2:=fun n=>underL_plain n _ (plain_nv s.2)
  have p3:=fun n=>underL_plain n _ (plain_ins g.ins)
  simp[hpR,MB.under,AV.underL,AV.under,p1,p2,p3]
 refine W_for (σ:=Nat×Nat) (M:=(mskOf (pol1.mask 40) (pol1.gc 40) (pol1.acts 40) 0 4)) rfl (fun x=>(⟨47,[(7,I x.1),(6,.ms 2 1 (rvisits g.ins (g.ins.length+1) (ns.take x.1) ([],[])).2.length 0 (rvisits g.ins (g.ins.length+1) (ns.take x.1) ([],[])).2.length),(5,.ms 1 1 (rvisits g.ins (g.ins.length+1) (ns.take x.1) ([],[])).1.length 0 (rvisits g.ins (g.ins.length+1) (ns.take x.1) ([],[])).1.length),(2,.rf 0 1 0 0),(1,.sl false (ns.map NV))],hpR (.row 3 [prgAV g] 0) (rvisits g.ins (g.ins.length+1) (ns.take x.1) ([],[])) x.2 []⟩:St)) (fun x=>x.1≤ns.length∧x.2≤(rvisits g.ins (g.ins.length+1) (ns.take x.1) ([],[])).2.length) (fun x=>ns.length - x.1) (0,0) ?_ ⟨Nat.zero_le _,Nat.zero_le _⟩ _ ?_
 ·rintro⟨i,z⟩ ⟨q1,q2⟩
  simp only at q1 q2 ⊢
  have hok:=hrok i
  by_cases hi:i < ns.length
  ·obtain⟨n,hn⟩:∃ n,ns[i]?=some n:=⟨_,List.getElem?_eq_getElem hi⟩
   have hn':(ns.map NV)[i]?=some (NV n):=by simp[hn]
   have hnN:=hns n (List.mem_of_getElem? hn)
   have hnx:rvisits g.ins (g.ins.length+1) (ns.take (i+1)) ([],[])=rvisit g.ins (g.ins.length+1) n (rvisits g.ins (g.ins.length+1) (ns.take i) ([],[])):=by rw[List.take_add_one,hn];exact rvisits_snoc _ _ _ _ _
   generalize rvisits g.ins (g.ins.length+1) (ns.take i) ([],[])=s at *
   obtain⟨_,⟨z1,K1,hz1,rfl⟩,hc⟩:=h75 (g.ins.length+1) n s (.row 3 [prgAV g] 0) z [] hnN hok q2 (by omega)
   simp +contextual (disch:=omega) only[Tryz.f40,dd40,go_sem,simprocAttr,evAppend,mu40,↓wrap_up,↓wrap_down,↓wrap_pred,↓wrap_sub_nat,hn',hc]
   repeat' (first|intro _|apply And.intro|(unfold dOk;kernel_rfl)|exact St.beq_refl _|(show altO _ _ _ _=true;kernel_rfl)|(show (_ || _)=true;kernel_rfl)|(show (_ && _)=true;kernel_rfl))
   all_goals
    refine⟨(i+1,z1),⟨hi,by rw[hnx];exact hz1⟩,by show ns.length - (i+1) < _;omega,?_⟩
    rw[hnx]
    exact prep_cut rfl rfl rfl rfl (by simp[AV.underL,AV.under,underL_plain,plain_nv]) (huR _ _)
  ·have hit:ns.take i=ns:=List.take_of_length_le (by omega)
   rw[hit]at hok q2 ⊢
   have hst:=rstate ho ns
   generalize rvisits g.ins (g.ins.length+1) ns ([],[])=s at *
   have hone:=hok.one
   have hsm:=hok.small
   simp +contextual (disch:=omega) only[Tryz.f40,dd40,go_sem,simprocAttr,evAppend,mu40,↓wrap_up,↓wrap_down,↓wrap_pred,↓wrap_sub_nat]
   refine W_count (M:=(mskOf (pol1.mask 40) (pol1.gc 40) (pol1.acts 40) 0 8)) rfl s.1.length (fun i=>(⟨47,[(8,I i),(5,.ms 1 1 s.1.length 0 s.1.length),(2,.rf 0 1 0 0)],hpR (.row 3 [prgAV g] 0) s z []⟩:St)) (fun i=>∀ j m,j < i→s.1[j]?=some m→isDone g.ins m=false) ?_ ?_ (fun k p h=>by omega) _ ?_
   ·intro j hj hg
    obtain⟨n,hn⟩:∃ n,s.1[j]?=some n:=⟨_,List.getElem?_eq_getElem hj⟩
    have hn':(s.1.map NV)[j]?=some (NV n):=by simp[hn]
    have hnN:=hok.sub n (List.mem_of_getElem? hn)
    obtain⟨p,hp⟩:∃ p,g.ins[n]?=some p:=⟨_,List.getElem?_eq_getElem hnN⟩
    have hp':(g.ins.map insAV)[n]?=some (insAV p):=by simp[hp]
    have hd:isDone g.ins n=(p.op == 0):=by simp[isDone,hp]
    by_cases h0:p.op=0
    ·have hcl:=kcutL_at (ins:=g.ins) hn (by rw[hd];simp[h0]) hg
     rw[hst]at hcl
     rw[hcl]
     simp +contextual (disch:=omega) only[Tryz.f40,dd40,go_sem,simprocAttr,evAppend,mu40,↓wrap_up,↓wrap_down,↓wrap_pred,↓wrap_sub_nat,hn',hp',h0]
     refine⟨by unfold dOk;kernel_rfl,?_⟩
     try rw[Nat.sub_zero]
     rw[List.map_take]
     exact⟨_,fzA_row' (k:=1) (z:=0) (els:=s.1.map NV) rfl (by simp) (by omega) (by rw[← List.map_take];exact plain_nv _)⟩
    ·simp +contextual (disch:=omega) only[Tryz.f40,dd40,go_sem,simprocAttr,evAppend,mu40,↓wrap_up,↓wrap_down,↓wrap_pred,↓wrap_sub_nat,hn',hp',h0]
     refine⟨by unfold dOk;kernel_rfl,fun k m hk hm=>?_,rfl⟩
     rcases Nat.lt_or_ge k j with h|h
     ·exact hg k m h hm
     ·obtain rfl:k=j:=by omega
      rw[hn]at hm
      obtain rfl:=Option.some.inj hm
      rw[hd];simp[h0]
   ·intro hg
    have hcl:=kcutL_none (ins:=g.ins) (l:=s.1) (fun n hn=>by
     obtain⟨k,hk,e⟩:=List.getElem_of_mem hn
     exact hg k n hk (by rw[← e];exact List.getElem?_eq_getElem hk))
    rw[hst]at hcl
    rw[hcl]
    simp +contextual (disch:=omega) only[Tryz.f40,dd40,go_sem,simprocAttr,evAppend,mu40,↓wrap_up,↓wrap_down,↓wrap_pred,↓wrap_sub_nat]
    exact⟨_,fz_row (k:=1) rfl (by simp) (plain_nv _)⟩
   ·rfl
 ·simp only[List.take_zero]
  exact prep_cut rfl rfl rfl rfl (by simp[AV.underL,AV.under,underL_plain,plain_nv]) (huR ([],[]) 0)
end
section
open Go.Proofs Go.RowKit Go.IntWalk
set_option maxRecDepth 100000
set_option maxHeartbeats 4000000
theorem kf76h (l:List (Int×Int)) (x:Int) (hl:l.length≤1000000) (H:List MB):call Tryz.prog pol1 76 [.sl false (l.map spanAV),I x] H=some (.bool (hasSpan l x),H):=by
 refine call_run Tryz.func76 rfl rfl rfl rfl rfl rfl (fun _=>rfl) (by simp[AV.plain,AV.plainL,plain_ints,plain_span,plain_ins,plain_prg]) (by simp[AV.plain,AV.plainL,plain_ints,plain_span,plain_ins,plain_prg]) ?_ H
 simp +contextual (disch:=omega) only[Tryz.f76,dd76,go_sem,simprocAttr,evAppend,mu76,↓wrap_up,↓wrap_down,↓wrap_pred,↓wrap_sub_nat]
 refine W_count (M:=(mskOf (pol1.mask 76) (pol1.gc 76) (pol1.acts 76) 0 2)) rfl l.length (fun i=>(⟨28,[(5,I i),(1,I x),(0,.sl false (l.map spanAV))],[]⟩:St)) (fun i=>∀ k p,k < i→l[k]?=some p→¬ (p.1≤x∧x≤p.2)) ?_ ?_ (fun k p h=>by omega) _ (by first|rfl|(refine prep_cut rfl (by rfl) (by rfl) (by rfl) ?_ ?_<;>simp[AV.underL,AV.under,MB.under,underL_plain,under_plain,plain_ints,plain_span,plain_ins,plain_prg,-List.map_take]))
 ·intro i hi hg
  obtain⟨p,hp⟩:∃ p,l[i]?=some p:=⟨_,List.getElem?_eq_getElem hi⟩
  by_cases hin:p.1≤x∧x≤p.2
  ·rw[hasSpan_at hp hin]
   simp +contextual (disch:=omega) only[Tryz.f76,dd76,go_sem,simprocAttr,evAppend,mu76,↓wrap_up,↓wrap_down,↓wrap_pred,↓wrap_sub_nat,hp,spanAV]
   exact fzEq rfl rfl
  ·have ext:∀ k q,k < i+1→l[k]?=some q→¬ (q.1≤x∧x≤q.2):=fun k q hk hq=>by
    rcases Nat.lt_or_ge k i with h|h
    ·exact hg k q h hq
    ·obtain rfl:k=i:=by omega
     rw[hp]at hq
     obtain rfl:=Option.some.inj hq
     exact hin
   by_cases h1:p.1≤x
   ·simp +contextual (disch:=omega) only[Tryz.f76,dd76,go_sem,simprocAttr,evAppend,mu76,↓wrap_up,↓wrap_down,↓wrap_pred,↓wrap_sub_nat,hp,spanAV]
    exact⟨ext,(by first|rfl|(refine prep_cut rfl (by rfl) (by rfl) (by rfl) ?_ ?_<;>simp[AV.underL,AV.under,MB.under,underL_plain,under_plain,plain_ints,plain_span,plain_ins,plain_prg,-List.map_take]))⟩
   ·simp +contextual (disch:=omega) only[Tryz.f76,dd76,go_sem,simprocAttr,evAppend,mu76,↓wrap_up,↓wrap_down,↓wrap_pred,↓wrap_sub_nat,hp,spanAV]
    exact⟨ext,(by first|rfl|(refine prep_cut rfl (by rfl) (by rfl) (by rfl) ?_ ?_<;>simp[AV.underL,AV.under,MB.under,underL_plain,under_plain,plain_ints,plain_span,plain_ins,plain_prg,-List.map_take]))⟩
 ·intro hg
  rw[hasSpan_no hg]
  simp +contextual (disch:=omega) only[Tryz.f76,dd76,go_sem,simprocAttr,evAppend,mu76,↓wrap_up,↓wrap_down,↓wrap_pred,↓wrap_sub_nat]
  exact fzEq rfl rfl
theorem kf41 (g:Prg) (hl:g.ins.length≤8192) (hw:Leads g.ins) (ho:∀ i∈g.ins,i.op=0∨i.op=1∨i.op=2∨i.op=3∨i.op=4) (hs:∀ i∈g.ins,i.set.length≤1000000) (l:List Nat) (hll:l.length≤1000000) (hln:∀ n∈l,n < g.ins.length) (x:Int) (H:List MB) :
  call Tryz.prog pol1 41 [prgAV g,.sl false (l.map NV),I x] H=some (.sl false ((nextL g.ins l x).map NV),H):=by
 have hpi:=plain_ins g.ins
 have hpl:=plain_nv l
 refine call_run Tryz.func41 rfl rfl rfl rfl rfl rfl (fun _=>rfl) (by simp[AV.plainL,AV.plain,hpl,hpi]) (by simp[AV.plain,plain_nv]) ?_ H
 simp +contextual (disch:=omega) only[Tryz.f41,dd41,go_sem,simprocAttr,evAppend,mu41,↓wrap_up,↓wrap_down,↓wrap_pred,↓wrap_sub_nat]
 refine W_count (M:=(mskOf (pol1.mask 41) (pol1.gc 41) (pol1.acts 41) 0 3)) rfl l.length (fun i=>(⟨46,[(8,I i),(7,.ms 1 1 (afterL g.ins (l.take i) x).length 0 (afterL g.ins (l.take i) x).length),(3,.rf 0 1 0 0),(2,I x),(1,.sl false (l.map NV))],[.row 3 [prgAV g] 0,.row 1 ((afterL g.ins (l.take i) x).map NV) 0]⟩:St)) (fun i=>True) ?_ ?_ trivial _ ?_
 ·intro i hi _
  obtain⟨n,hn⟩:∃ n,l[i]?=some n:=⟨_,List.getElem?_eq_getElem hi⟩
  have hn':(l.map NV)[i]?=some (NV n):=by simp[hn]
  have hnN:=hln n (List.mem_of_getElem? hn)
  obtain⟨p,hq⟩:∃ p,g.ins[n]?=some p:=⟨_,List.getElem?_eq_getElem hnN⟩
  have hq':(g.ins.map insAV)[n]?=some (insAV p):=by simp[hq]
  have hnx:afterL g.ins (l.take (i+1)) x=afterL g.ins (l.take i) x++(if p.op=1∧hasSpan p.set x=true then [n+1] else []):=by rw[List.take_add_one,hn];exact(afterL_snoc _ _ _ _).trans (by rw[hq])
  have hlen:=afterL_len g.ins (l.take i) x
  rw[List.length_take]at hlen
  rw[hnx]
  generalize afterL g.ins (l.take i) x=r at *
  have happ:=fun(y:MB) (K:List MB) (t:Bool)=>app_n (H:=y::.row 1 (r.map NV) 0::K) (i:=1) (c:=n+1) (t:=t) rfl rfl (by omega)
  have hf:=kf76h p.set x (hs p (List.mem_of_getElem? hq))
  by_cases h1:p.op=1
  ·cases h2:hasSpan p.set x with
   | true=>
     rw[h2]at hf
     rw[if_pos ⟨h1,rfl⟩]
     simp +contextual (disch:=omega) only[Tryz.f41,dd41,go_sem,simprocAttr,mu41,↓wrap_up,↓wrap_down,↓wrap_pred,↓wrap_sub_nat,hn',hq',h1,hf,happ]
     repeat' (first|intro _|apply And.intro|(unfold dOk;kernel_rfl)|exact St.beq_refl _|(show altO _ _ _ _=true;kernel_rfl)|(show (_ || _)=true;kernel_rfl)|(show (_ && _)=true;kernel_rfl))
     all_goals exact(by first|rfl|(refine prep_to (n:=2) (m:=⟨some [8,7,3,2,1],some 2,[]⟩) rfl rfl ?_ ?_ ?_<;>first|rfl|(simp[keepT,AV.underL,AV.under,MB.under,underL_plain,under_plain,underL_append,plain_ints,plain_span,plain_ins,plain_prg,-List.map_take,-List.map_replicate,-List.map_set,plain_nv];done)|(simp[keepT,AV.underL,AV.under,MB.under,underL_plain,under_plain,underL_append,plain_ints,plain_span,plain_ins,plain_prg,-List.map_take,-List.map_replicate,-List.map_set,plain_nv];omega)))
   | false=>
     rw[h2]at hf
     rw[if_neg (by simp)]
     simp +contextual (disch:=omega) only[Tryz.f41,dd41,go_sem,simprocAttr,mu41,↓wrap_up,↓wrap_down,↓wrap_pred,↓wrap_sub_nat,hn',hq',h1,hf]
     repeat' (first|intro _|apply And.intro|(unfold dOk;kernel_rfl)|exact St.beq_refl _|(show altO _ _ _ _=true;kernel_rfl)|(show (_ || _)=true;kernel_rfl)|(show (_ && _)=true;kernel_rfl))
     all_goals exact(by first|rfl|(refine prep_to (n:=2) (m:=⟨some [8,7,3,2,1],some 2,[]⟩) rfl rfl ?_ ?_ ?_<;>first|rfl|(simp[keepT,AV.underL,AV.under,MB.under,underL_plain,under_plain,underL_append,plain_ints,plain_span,plain_ins,plain_prg,-List.map_take,-List.map_replicate,-List.map_set,plain_nv];done)|(simp[keepT,AV.underL,AV.under,MB.under,underL_plain,under_plain,underL_append,plain_ints,plain_span,plain_ins,plain_prg,-List.map_take,-List.map_replicate,-List.map_set,plain_nv];omega)))
  ·rw[if_neg (by simp[h1])]
   simp +contextual (disch:=omega) only[Tryz.f41,dd41,go_sem,simprocAttr,mu41,↓wrap_up,↓wrap_down,↓wrap_pred,↓wrap_sub_nat,hn',hq',h1,hf]
   repeat' (first|intro _|apply And.intro|(unfold dOk;kernel_rfl)|exact St.beq_refl _|(show altO _ _ _ _=true;kernel_rfl)|(show (_ || _)=true;kernel_rfl)|(show (_ && _)=true;kernel_rfl))
   all_goals exact(by first|rfl|(refine prep_to (n:=2) (m:=⟨some [8,7,3,2,1],some 2,[]⟩) rfl rfl ?_ ?_ ?_<;>first|rfl|(simp[keepT,AV.underL,AV.under,MB.under,underL_plain,under_plain,underL_append,plain_ints,plain_span,plain_ins,plain_prg,-List.map_take,-List.map_replicate,-List.map_set,plain_nv];done)|(simp[keepT,AV.underL,AV.under,MB.under,underL_plain,under_plain,underL_append,plain_ints,plain_span,plain_ins,plain_prg,-List.map_take,-List.map_replicate,-List.map_set,plain_nv];omega)))
 ·intro _
  rw[List.take_of_length_le (Nat.le_refl _)]
  have hal:=afterL_len g.ins l x
  have hrow:getRow [MB.row 3 [prgAV g] 0,.row 1 ((afterL g.ins l x).map NV) 0] 1=some (1,(afterL g.ins l x).map NV,0):=rfl
  have hz:=fz_row (tot:=(afterL g.ins l x).length) hrow (by simp) (plain_nv _)
  have hm:mark [MB.row 3 [prgAV g] 0,.row 1 ((afterL g.ins l x).map NV) 0] 1 (afterL g.ins l x).length=[MB.row 3 [prgAV g] 0,.row 1 ((afterL g.ins l x).map NV) (afterL g.ins l x).length]:=by
   unfold mark;rw[hrow];simp
  rw[hm]at hz
  have hc40:call Tryz.prog pol1 40 [prgAV g,.ms 1 1 (afterL g.ins l x).length 0 (afterL g.ins l x).length] [MB.row 3 [prgAV g] 0,.row 1 ((afterL g.ins l x).map NV) 0] =
    some (.sl false ((stateL g.ins (afterL g.ins l x)).map NV),[MB.row 3 [prgAV g] 0,.row 1 ((afterL g.ins l x).map NV) (afterL g.ins l x).length]):=by
   rw[call_frz2 (l:=[prgAV g,.sl false ((afterL g.ins l x).map NV)]) rfl ?_ (by simp[AV.plainL,AV.plain,plain_nv,hpi])]
   ·exact kf40 g hl hw ho _ (by omega) (afterL_lt hw l x) _
   ·have h1:pol1.byref 40 0=false:=rfl
    have h2:pol1.byref 40 (0+1)=false:=rfl
    have h3:∀ H,fz (prgAV g) H=some (prgAV g,H):=fun H=>fz_plain H (plain_prg g)
    simp only[frzArgs,h1,h2,Bool.false_eq_true,if_false,hz,h3]
  simp +contextual (disch:=omega) only[Tryz.f41,dd41,go_sem,simprocAttr,evAppend,mu41,↓wrap_up,↓wrap_down,↓wrap_pred,↓wrap_sub_nat,hc40]
  exact⟨_,fz_plain _ (by simp[AV.plain,plain_nv])⟩
 ·simp only[List.take_zero,afterL,List.flatMap_nil,List.map_nil,List.length_nil];exact(by first|rfl|(refine prep_to (n:=2) (m:=⟨some [8,7,3,2,1],some 2,[]⟩) rfl rfl ?_ ?_ ?_<;>first|rfl|(simp[keepT,AV.underL,AV.under,MB.under,underL_plain,under_plain,underL_append,plain_ints,plain_span,plain_ins,plain_prg,-List.map_take,-List.map_replicate,-List.map_set,plain_nv];done)|(simp[keepT,AV.underL,AV.under,MB.under,underL_plain,under_plain,underL_append,plain_ints,plain_span,plain_ins,plain_prg,-List.map_take,-List.map_replicate,-List.map_set,plain_nv];omega)))
theorem kf25i (a b:List Int) (ha:a.length≤4000000000) (hb:b.length≤4000000000) (H:List MB):call Tryz.prog pol1 25 [.sl false (a.map I),.sl false (b.map I)] H=some (.bool (decide (a=b)),H):=by
 have hpa:=plain_ints a
 have hpb:=plain_ints b
 refine call_run Tryz.func25 rfl rfl rfl rfl rfl rfl (fun _=>rfl) (by simp[AV.plainL,AV.plain,hpa,hpb]) (by simp[AV.plain]) ?_ H
 by_cases hl:a.length=b.length
 ·simp +contextual (disch:=omega) only[Tryz.f25,dd25,go_sem,simprocAttr,evAppend,mu25,↓wrap_up,↓wrap_down,↓wrap_pred,↓wrap_sub_nat]
  refine W_count (M:=(mskOf (pol1.mask 25) (pol1.gc 25) (pol1.acts 25) 0 4)) rfl a.length (fun i=>(⟨26,[(5,I i),(1,.sl false (b.map I)),(0,.sl false (a.map I))],[]⟩:St)) (fun i=>∀ k,k < i→a[k]?=b[k]?) ?_ ?_ (fun k h=>by omega) _ (by first|rfl|(refine prep_cut rfl (by rfl) (by rfl) (by rfl) ?_ ?_<;>simp[AV.underL,AV.under,MB.under,underL_plain,under_plain,plain_ints,plain_span,plain_ins,plain_prg,-List.map_take]))
  ·intro i hi hg
   obtain⟨x,hx⟩:∃ x,a[i]?=some x:=⟨_,List.getElem?_eq_getElem hi⟩
   obtain⟨y,hy⟩:∃ y,b[i]?=some y:=⟨_,List.getElem?_eq_getElem (by omega)⟩
   have hx':(a.map I)[i]?=some (I x):=by simp[hx]
   have hy':(b.map I)[i]?=some (I y):=by simp[hy]
   by_cases he:x=y
   ·subst he
    simp +contextual (disch:=omega) only[Tryz.f25,dd25,go_sem,simprocAttr,evAppend,mu25,↓wrap_up,↓wrap_down,↓wrap_pred,↓wrap_sub_nat,hx',hy']
    refine⟨by unfold dOk;kernel_rfl,fun k hk=>?_,(by first|rfl|(refine prep_cut rfl (by rfl) (by rfl) (by rfl) ?_ ?_<;>simp[AV.underL,AV.under,MB.under,underL_plain,under_plain,plain_ints,plain_span,plain_ins,plain_prg,-List.map_take]))⟩
    rcases Nat.lt_succ_iff_lt_or_eq.1 hk with h|rfl
    ·exact hg k h
    ·rw[hx,hy]
   ·have hd:decide (a=b)=false:=decide_eq_false fun e=>by rw[e,hy]at hx;exact he (Option.some.inj hx).symm
    rw[hd]
    simp +contextual (disch:=omega) only[Tryz.f25,dd25,go_sem,simprocAttr,evAppend,mu25,↓wrap_up,↓wrap_down,↓wrap_pred,↓wrap_sub_nat,hx',hy']
    repeat' (first|intro _|apply And.intro|(unfold dOk;kernel_rfl)|exact St.beq_refl _|(show altO _ _ _ _=true;kernel_rfl)|(show (_ || _)=true;kernel_rfl)|(show (_ && _)=true;kernel_rfl))
    all_goals exact fzEq rfl rfl
  ·intro hg
   have hd:decide (a=b)=true:=decide_eq_true (List.ext_getElem? fun k=>by
    by_cases hk:k < a.length
    ·exact hg k hk
    ·rw[List.getElem?_eq_none (by omega),List.getElem?_eq_none (by omega)])
   rw[hd]
   simp +contextual (disch:=omega) only[Tryz.f25,dd25,go_sem,simprocAttr,evAppend,mu25,↓wrap_up,↓wrap_down,↓wrap_pred,↓wrap_sub_nat]
   exact fzEq rfl rfl
 ·have hd:decide (a=b)=false:=decide_eq_false fun e=>hl (by rw[e])
  rw[hd]
  have hne:(a.length:Int)≠b.length:=by omega
  simp +contextual (disch:=omega) only[Tryz.f25,dd25,go_sem,simprocAttr,evAppend,mu25,↓wrap_up,↓wrap_down,↓wrap_pred,↓wrap_sub_nat]
  exact fzEq rfl rfl
theorem map_cast (l:List Nat):l.map NV=(l.map (fun n:Nat=>(n:Int))).map I:=by simp
theorem cast_inj {a b:List Nat}:a.map (fun n:Nat=>(n:Int))=b.map (fun n:Nat=>(n:Int))↔a=b:=
 List.map_inj_right (fun x y e=>by omega)
theorem kf25n (a b:List Nat) (ha:a.length≤4000000000) (hb:b.length≤4000000000) (H:List MB):call Tryz.prog pol1 25 [.sl false (a.map NV),.sl false (b.map NV)] H=some (.bool (decide (a=b)),H):=by
 have h:=kf25i (a.map (fun n:Nat=>(n:Int))) (b.map (fun n:Nat=>(n:Int))) (by simpa using ha) (by simpa using hb) H
 rw[map_cast a,map_cast b,h]
 congr 2
 simp only[AV.bool.injEq,decide_eq_decide]
 exact cast_inj
abbrev lvAV (l:List Nat):AV:=.sl false (l.map NV)
theorem plain_lv (L:List (List Nat)):AV.plainL (L.map lvAV)=true:=by
 induction L with
 | nil=>rfl
 | cons a L ih=>simp[AV.plainL,AV.plain,plain_nv,ih]
theorem kf42 (L:List (List Nat)) (s:List Nat) (hL:L.length≤1000000) (hl:∀ l∈L,l.length≤4000000000) (hs:s.length≤4000000000) (H:List MB):call Tryz.prog pol1 42 [.sl false (L.map lvAV),.sl false (s.map NV)] H=some (.bool (decide (s∈L)),H):=by
 have hpL:=plain_lv L
 have hps:=plain_nv s
 refine call_run Tryz.func42 rfl rfl rfl rfl rfl rfl (fun _=>rfl) (by simp[AV.plainL,AV.plain,hpL,hps]) (by simp[AV.plain]) ?_ H
 simp +contextual (disch:=omega) only[Tryz.f42,dd42,go_sem,simprocAttr,evAppend,mu42,↓wrap_up,↓wrap_down,↓wrap_pred,↓wrap_sub_nat]
 refine W_count (M:=(mskOf (pol1.mask 42) (pol1.gc 42) (pol1.acts 42) 0 2)) rfl L.length (fun i=>(⟨20,[(5,I i),(1,.sl false (s.map NV)),(0,.sl false (L.map lvAV))],[]⟩:St)) (fun i=>∀ k l,k < i→L[k]?=some l→l≠s) ?_ ?_ (fun k p h=>by omega) _ (by first|rfl|(refine prep_cut rfl (by rfl) (by rfl) (by rfl) ?_ ?_<;>simp[AV.underL,AV.under,MB.under,underL_plain,under_plain,plain_ints,plain_span,plain_ins,plain_prg,-List.map_take]))
 ·intro i hi hg
  obtain⟨l,hll⟩:∃ l,L[i]?=some l:=⟨_,List.getElem?_eq_getElem hi⟩
  have hl':(L.map lvAV)[i]?=some (lvAV l):=by simp[hll]
  have hc:=kf25n l s (hl l (List.mem_of_getElem? hll)) hs
  by_cases he:l=s
  ·subst he
   have hd:decide (l∈L)=true:=decide_eq_true (List.mem_of_getElem? hll)
   rw[hd]
   rw[decide_eq_true rfl]at hc
   simp +contextual (disch:=omega) only[Tryz.f42,dd42,go_sem,simprocAttr,evAppend,mu42,↓wrap_up,↓wrap_down,↓wrap_pred,↓wrap_sub_nat,hl',hc]
   exact fzEq rfl rfl
  ·rw[decide_eq_false he]at hc
   simp +contextual (disch:=omega) only[Tryz.f42,dd42,go_sem,simprocAttr,evAppend,mu42,↓wrap_up,↓wrap_down,↓wrap_pred,↓wrap_sub_nat,hl',hc]
   refine⟨fun k q hk hq=>?_,(by first|rfl|(refine prep_cut rfl (by rfl) (by rfl) (by rfl) ?_ ?_<;>simp[AV.underL,AV.under,MB.under,underL_plain,under_plain,plain_ints,plain_span,plain_ins,plain_prg,-List.map_take]))⟩
   rcases Nat.lt_or_ge k i with h|h
   ·exact hg k q h hq
   ·obtain rfl:k=i:=by omega
    rw[hll]at hq
    obtain rfl:=Option.some.inj hq
    exact he
 ·intro hg
  have hd:decide (s∈L)=false:=decide_eq_false fun hn=>by
   obtain⟨k,hk,e⟩:=List.getElem_of_mem hn
   exact hg k s hk (by rw[← e];exact List.getElem?_eq_getElem hk) rfl
  rw[hd]
  simp +contextual (disch:=omega) only[Tryz.f42,dd42,go_sem,simprocAttr,evAppend,mu42,↓wrap_up,↓wrap_down,↓wrap_pred,↓wrap_sub_nat]
  exact fzEq rfl rfl
theorem kf17 (g:Prg) (hb:PrgB g) (H:List MB):call Tryz.prog pol1 17 [prgAV g] H=some (I (acceptG g),H):=by
 have hv:=f29 g hb
 obtain⟨hl,hs⟩:=hb
 refine call_run Tryz.func17 rfl rfl rfl rfl rfl rfl (fun _=>rfl) (by simp[AV.plain,AV.plainL,plain_ints,plain_span,plain_ins,plain_prg]) (by simp[AV.plain,AV.plainL,plain_ints,plain_span,plain_ins,plain_prg]) ?_ H
 unfold acceptG
 by_cases h1:validG g=0
 ·rw[h1]at hv
  rw[if_neg (by simp[h1])]
  simp +contextual (disch:=omega) only[Tryz.f17,dd17,go_sem,simprocAttr,evAppend,mu17,↓wrap_up,↓wrap_down,↓wrap_pred,↓wrap_sub_nat,hv]
  refine W_count (M:=(mskOf (pol1.mask 17) (pol1.gc 17) (pol1.acts 17) 0 5)) rfl g.ins.length (fun i=>(⟨24,[(4,I i),(1,.rf 0 1 0 0)],[.row 3 [prgAV g] 0]⟩:St))
   (fun i=>∀ k p,k < i→g.ins[k]?=some p→p.op≠5) ?_ ?_ (fun k p h=>by omega) _ (by first|rfl|(refine prep_cut rfl (by rfl) (by rfl) (by rfl) ?_ ?_<;>simp[AV.underL,AV.under,MB.under,underL_plain,under_plain,plain_ints,plain_span,plain_ins,plain_prg,-List.map_take]))
  ·intro i hi hg
   obtain⟨p,hp⟩:∃ p,g.ins[i]?=some p:=⟨_,List.getElem?_eq_getElem hi⟩
   have hp':(g.ins.map insAV)[i]?=some (insAV p):=by simp[hp]
   by_cases h5:p.op=5
   ·have:g.ins.any (fun i=>i.op == 5)=true:=List.any_eq_true.2 ⟨p,List.mem_of_getElem? hp,by simp[h5]⟩
    rw[this]
    simp +contextual (disch:=omega) only[Tryz.f17,dd17,go_sem,simprocAttr,evAppend,mu17,↓wrap_up,↓wrap_down,↓wrap_pred,↓wrap_sub_nat,hp',h5]
    exact fzEq rfl rfl
   ·simp +contextual (disch:=omega) only[Tryz.f17,dd17,go_sem,simprocAttr,evAppend,mu17,↓wrap_up,↓wrap_down,↓wrap_pred,↓wrap_sub_nat,hp',h5]
    refine⟨fun k q hk hq=>?_,(by first|rfl|(refine prep_cut rfl (by rfl) (by rfl) (by rfl) ?_ ?_<;>simp[AV.underL,AV.under,MB.under,underL_plain,under_plain,plain_ints,plain_span,plain_ins,plain_prg,-List.map_take]))⟩
    rcases Nat.lt_succ_iff_lt_or_eq.1 hk with h|rfl
    ·exact hg k q h hq
    ·rw[hp]at hq;cases hq;exact h5
  ·intro hg
   have:g.ins.any (fun i=>i.op == 5)=false:=by
    rw[List.any_eq_false]
    intro p hp
    obtain⟨k,hk,e⟩:=List.getElem_of_mem hp
    have:=hg k p hk (by rw[← e];exact List.getElem?_eq_getElem hk)
    simp[this]
   rw[this]
   simp +contextual (disch:=omega) only[Tryz.f17,dd17,go_sem,simprocAttr,evAppend,mu17,↓wrap_up,↓wrap_down,↓wrap_pred,↓wrap_sub_nat]
   exact fzEq rfl rfl
 ·rw[if_pos h1]
  simp +contextual (disch:=omega) only[Tryz.f17,dd17,go_sem,simprocAttr,evAppend,mu17,↓wrap_up,↓wrap_down,↓wrap_pred,↓wrap_sub_nat,hv]
  exact fzEq rfl rfl
end
abbrev Spans:=List (Int×Int)
def addI (O:Spans) (p:Int×Int):Spans:=
 match O.getLast? with
 | some q=>if p.1≤q.2+1 then O.dropLast++[(q.1,max q.2 p.2)] else O++[p]
 | none=>[p]
theorem addI_nil (p:Int×Int):addI [] p=[p]:=rfl
theorem addI_snoc (O:Spans) (q p:Int×Int):addI (O++[q]) p=if p.1≤q.2+1 then O++[(q.1,max q.2 p.2)] else O++[q]++[p]:=by
 simp[addI]
theorem addI_len (O:Spans) (p:Int×Int):O.length≤(addI O p).length∧(addI O p).length≤O.length+1∧0 < (addI O p).length:=by
 rcases List.eq_nil_or_concat O with rfl|⟨O',q,rfl⟩
 ·simp[addI_nil]
 ·rw[List.concat_eq_append,addI_snoc]
  split<;>simp
structure SetV (s:Spans):Prop where
 sep:s.Pairwise fun p q=>p.2+2≤q.1
 good:∀ p∈s,0≤p.1∧p.1≤p.2∧p.2≤1114111
def colA (L:List Spans) (x:Int):List Bool:=L.map fun s=>hasSpan s x
def lastP (E:List Int) (top:Int) (k:Nat):Int:=(E[k]?).getD (top+1)
def pieceA (E:List Int) (top:Int) (k:Nat):Int×Int:=(lastP E top k,lastP E top (k+1) - 1)
def colK (L:List Spans) (E:List Int) (top:Int) (k:Nat):List Bool:=colA L (lastP E top k)
section classes
variable (col:Nat→List Bool) (pc:Nat→Int×Int)
def firsts:Nat→List (List Bool)
 | 0=>[]
 | n+1=>if col n∈firsts n then firsts n else firsts n++[col n]
def clsOf (c:List Bool):Nat→Spans
 | 0=>[]
 | n+1=>if col n=c then addI (clsOf c n) (pc n) else clsOf c n
def classesA (n:Nat):List Spans:=(firsts col n).map fun c=>clsOf col pc c n
def tooBig (n:Nat):Prop:=1024 < (firsts col n).length∨∃ c∈firsts col n,64 < (clsOf col pc c n).length
variable {col pc}
theorem firsts_mem {c:List Bool}:∀ {n:Nat},c∈firsts col n↔∃ k,k < n∧col k=c
 | 0=>by simp[firsts]
 | n+1=>by
   have ih:=firsts_mem (c:=c) (n:=n)
   have e:(∃ k,k < n+1∧col k=c)↔(c∈firsts col n∨col n=c):=by
    rw[ih]
    constructor
    ·rintro⟨k,h1,h2⟩
     rcases Nat.lt_succ_iff_lt_or_eq.1 h1 with h3|rfl
     ·exact .inl ⟨k,h3,h2⟩
     ·exact .inr h2
    ·rintro(⟨k,h1,h2⟩|h)
     ·exact⟨k,by omega,h2⟩
     ·exact⟨n,by omega,h⟩
   rw[e]
   simp only[firsts]
   split
   ·rename_i h
    exact⟨.inl,fun h1=>h1.elim id fun h2=>h2 ▸ h⟩
   ·rw[List.mem_append,List.mem_singleton]
    exact⟨fun h1=>h1.imp id Eq.symm,fun h1=>h1.imp id Eq.symm⟩
theorem firsts_nodup:∀ n,(firsts col n).Nodup
 | 0=>.nil
 | n+1=>by
   simp only[firsts]
   split
   ·exact firsts_nodup n
   ·rename_i h
    exact List.nodup_append.2 ⟨firsts_nodup n,by simp,fun x hx y hy e=>h (by rw[← List.mem_singleton.1 hy,← e];exact hx)⟩
theorem firsts_pre (n:Nat):∃ m,firsts col (n+1)=firsts col n++m:=by
 simp only[firsts]
 split
 ·exact⟨[],by simp⟩
 ·exact⟨_,rfl⟩
theorem firsts_le {n m:Nat} (h:n≤m):∃ k,firsts col m=firsts col n++k:=by
 induction h with
 | refl=>exact⟨[],by simp⟩
 | step h ih=>
   obtain⟨k,hk⟩:=ih
   obtain⟨k2,hk2⟩:=firsts_pre (col:=col) _
   exact⟨k++k2,by rw[hk2,hk,List.append_assoc]⟩
theorem firsts_len (n:Nat):(firsts col n).length≤n:=by
 induction n with
 | zero=>simp[firsts]
 | succ n ih=>simp only[firsts];split<;>(try simp only[List.length_append,List.length_singleton])<;>omega
theorem clsOf_len_le (c:List Bool) {n m:Nat} (h:n≤m):(clsOf col pc c n).length≤(clsOf col pc c m).length:=by
 induction h with
 | refl=>exact Nat.le_refl _
 | @step m h ih=>
   simp only[clsOf]
   split
   ·have:=(addI_len (clsOf col pc c m) (pc m)).1;omega
   ·exact ih
theorem clsOf_nil {c:List Bool} {n:Nat} (h:c ∉ firsts col n):clsOf col pc c n=[]:=by
 induction n with
 | zero=>rfl
 | succ n ih=>
   have h2:c ∉ firsts col n:=fun hm=>h (by
    obtain⟨m,e⟩:=firsts_pre (col:=col) n
    rw[e];exact List.mem_append_left _ hm)
   have h3:col n≠c:=fun e=>h (firsts_mem.2 ⟨n,by omega,e⟩)
   simp only[clsOf,if_neg h3]
   exact ih h2
theorem clsOf_pos {c:List Bool} {n:Nat} (h:c∈firsts col n):0 < (clsOf col pc c n).length:=by
 induction n with
 | zero=>simp[firsts]at h
 | succ n ih=>
   simp only[clsOf]
   split
   ·exact(addI_len _ _).2.2
   ·rename_i h3
    refine ih ?_
    obtain⟨k,h1,h2⟩:=firsts_mem.1 h
    rcases Nat.lt_succ_iff_lt_or_eq.1 h1 with h4|rfl
    ·exact firsts_mem.2 ⟨k,h4,h2⟩
    ·exact absurd h2 h3
theorem tooBig_mono {n m:Nat} (h:n≤m) (hb:tooBig col pc n):tooBig col pc m:=by
 obtain⟨k,hk⟩:=firsts_le (col:=col) h
 rcases hb with hb|⟨c,hc,hl⟩
 ·left;rw[hk,List.length_append];omega
 ·right
  exact⟨c,by rw[hk];exact List.mem_append_left _ hc,Nat.lt_of_lt_of_le hl (clsOf_len_le c h)⟩
theorem classes_len (n:Nat):(classesA col pc n).length=(firsts col n).length:=by simp[classesA]
theorem classes_old {n j:Nat} (h:(firsts col n)[j]?=some (col n)):firsts col (n+1)=firsts col n∧classesA col pc (n+1)=(classesA col pc n).set j (addI (clsOf col pc (col n) n) (pc n))∧(classesA col pc n)[j]?=some (clsOf col pc (col n) n):=by
 have hm:col n∈firsts col n:=List.mem_of_getElem? h
 have h1:firsts col (n+1)=firsts col n:=by simp only[firsts,if_pos hm]
 refine⟨h1,?_,by simp[classesA,h]⟩
 have hj:=(List.getElem?_eq_some_iff.1 h).1
 refine List.ext_getElem? fun i=>?_
 rw[List.getElem?_set]
 unfold classesA
 rw[h1,List.getElem?_map,List.getElem?_map,List.length_map]
 by_cases e:j=i
 ·subst e
  rw[if_pos rfl,if_pos hj,h]
  simp[clsOf]
 ·rw[if_neg e]
  rcases Nat.lt_or_ge i (firsts col n).length with hi|hi
  ·have hne:col n≠(firsts col n)[i]:=fun e2=>by
    have h3:=(List.getElem?_eq_some_iff.1 h).2
    have hnd:=List.pairwise_iff_getElem.1 (firsts_nodup (col:=col) n)
    rcases Nat.lt_or_gt_of_ne e with h4|h4
    ·exact hnd j i hj hi h4 (h3.trans e2)
    ·exact hnd i j hi hj h4 (e2.symm.trans h3.symm)
   rw[List.getElem?_eq_getElem hi]
   simp[clsOf,hne]
  ·rw[List.getElem?_eq_none hi];rfl
theorem classes_new {n:Nat} (h:col n ∉ firsts col n):firsts col (n+1)=firsts col n++[col n]∧classesA col pc (n+1)=classesA col pc n++[[pc n]]:=by
 have h1:firsts col (n+1)=firsts col n++[col n]:=by simp only[firsts,if_neg h]
 refine⟨h1,?_⟩
 unfold classesA
 rw[h1,List.map_append]
 congr 1
 ·refine List.map_congr_left fun c hc=>?_
  have:col n≠c:=fun e=>h (by rw[e];exact hc)
  simp[clsOf,this]
 ·simp[clsOf,clsOf_nil h,addI_nil]
end classes
open Classical in
noncomputable def splitA (L:List Spans) (E:List Int) (top:Int):Option (List Spans):=
 if tooBig (colK L E top) (pieceA E top) E.length then none else some (classesA (colK L E top) (pieceA E top) E.length)
theorem splitA_bad {L:List Spans} {E:List Int} {top:Int} {n:Nat} (hn:n≤E.length) (h:tooBig (colK L E top) (pieceA E top) n):splitA L E top=none:=by
 unfold splitA
 rw[if_pos (tooBig_mono hn h)]
theorem splitA_ok {L:List Spans} {E:List Int} {top:Int} (h:¬ tooBig (colK L E top) (pieceA E top) E.length):splitA L E top=some (classesA (colK L E top) (pieceA E top) E.length):=by
 unfold splitA
 rw[if_neg h]
def putL (l:List Int) (n top:Int):List Int:=
 if n > top∨n∈l then l else l.filter (fun x=>decide (x < n))++[n]++l.filter (fun x=>decide (n < x))
def putS (top:Int) (l:List Int) (s:Spans):List Int:=s.foldl (fun l p=>putL (putL l p.1 top) (p.2+1) top) l
def endsR (L:List Spans) (top:Int):List Int:=L.foldl (putS top) [0]
structure EndsOk (top:Int) (l:List Int):Prop where
 sorted:l.Pairwise (·< ·)
 le:∀ x∈l,0≤x∧x≤top
 zero:0∈l
theorem putL_mem {l:List Int} {n top x:Int}:x∈putL l n top↔x∈l∨(x=n∧n≤top):=by
 unfold putL
 split
 ·rename_i h
  constructor
  ·exact .inl
  ·rintro(h1|⟨rfl,h1⟩)
   ·exact h1
   ·rcases h with h|h
    ·omega
    ·exact h
 ·rename_i h
  have h1:n≤top:=by omega
  have h2:n ∉ l:=fun e=>h (.inr e)
  simp only[List.mem_append,List.mem_filter,List.mem_singleton,decide_eq_true_eq]
  constructor
  ·rintro((⟨h3,h4⟩|rfl)|⟨h3,h4⟩)
   ·exact .inl h3
   ·exact .inr ⟨rfl,h1⟩
   ·exact .inl h3
  ·rintro(h3|⟨rfl,h4⟩)
   ·rcases Int.lt_trichotomy x n with h5|h5|h5
    ·exact .inl (.inl ⟨h3,h5⟩)
    ·exact .inl (.inr h5)
    ·exact .inr ⟨h3,h5⟩
   ·exact .inl (.inr rfl)
theorem EndsOk.put {top:Int} {l:List Int} (h:EndsOk top l) {n:Int} (hn:0≤n):EndsOk top (putL l n top):=by
 refine⟨?_,fun x hx=>?_,putL_mem.2 (.inl h.zero)⟩
 ·unfold putL
  split
  ·exact h.sorted
  ·refine List.pairwise_append.2 ⟨List.pairwise_append.2 ⟨h.sorted.filter _,by simp,fun a ha b hb=>?_⟩,h.sorted.filter _,fun a ha b hb=>?_⟩
   ·rw[List.mem_singleton.1 hb]
    have:=(List.mem_filter.1 ha).2
    simpa using this
   ·have h2:=(List.mem_filter.1 hb).2
    simp at h2
    rcases List.mem_append.1 ha with ha|ha
    ·have:=(List.mem_filter.1 ha).2
     simp at this;omega
    ·rw[List.mem_singleton.1 ha];exact h2
 ·rcases putL_mem.1 hx with h1|⟨rfl,h1⟩
  ·exact h.le x h1
  ·exact⟨hn,h1⟩
theorem putL_len (l:List Int) (n top:Int):(putL l n top).length≤l.length+1:=by
 unfold putL
 split
 ·omega
 ·rename_i h
  have h2:n ∉ l:=fun e=>h (.inr e)
  have h3:∀ l:List Int,(l.filter fun x=>decide (x < n)).length+(l.filter fun x=>decide (n < x)).length≤l.length:=by
   intro l
   induction l with
   | nil=>simp
   | cons a l ih=>
     by_cases h5:a < n
     ·have h6:¬ n < a:=by omega
      simp[List.filter_cons,h5,h6];omega
     ·by_cases h6:n < a
      ·simp[List.filter_cons,h5,h6];omega
      ·simp[List.filter_cons,h5,h6];omega
  have:=h3 l
  simp only[List.length_append,List.length_singleton];omega
theorem putS_ok {top:Int}:∀ {s:Spans} {l:List Int},EndsOk top l→(∀ p∈s,0≤p.1∧p.1≤p.2)→EndsOk top (putS top l s)∧(putS top l s).length≤l.length+2 * s.length ∧
  ∀ x,x∈putS top l s↔x∈l∨∃ p∈s,(x=p.1∨x=p.2+1)∧x≤top
 | [],l,h,_=>⟨h,by simp[putS],fun x=>by simp[putS]⟩
 | p::s,l,h,hs=>by
   have hp:=hs p (by simp)
   obtain⟨h1,h2,h3⟩:=putS_ok (s:=s) ((h.put hp.1).put (n:=p.2+1) (by omega)) (fun q hq=>hs q (by simp[hq]))
   have l1:=putL_len l p.1 top
   have l2:=putL_len (putL l p.1 top) (p.2+1) top
   refine⟨h1,?_,fun x=>?_⟩
   ·show (putS top (putL (putL l p.1 top) (p.2+1) top) s).length≤_
    simp only[List.length_cons];omega
   ·show x∈putS top (putL (putL l p.1 top) (p.2+1) top) s↔_
    rw[h3,putL_mem,putL_mem]
    constructor
    ·rintro(((h4|⟨rfl,h4⟩)|⟨rfl,h4⟩)|⟨q,h4,h5⟩)
     ·exact .inl h4
     ·exact .inr ⟨p,by simp,.inl rfl,h4⟩
     ·exact .inr ⟨p,by simp,.inr rfl,h4⟩
     ·exact .inr ⟨q,by simp[h4],h5⟩
    ·rintro(h4|⟨q,h4,h5,h6⟩)
     ·exact .inl (.inl (.inl h4))
     ·rcases List.mem_cons.1 h4 with rfl|h4
      ·rcases h5 with rfl|rfl
       ·exact .inl (.inl (.inr ⟨rfl,h6⟩))
       ·exact .inl (.inr ⟨rfl,h6⟩)
      ·exact .inr ⟨q,h4,h5,h6⟩
theorem endsR_go {top:Int}:∀ {L:List Spans} {l:List Int},EndsOk top l→(∀ s∈L,∀ p∈s,0≤p.1∧p.1≤p.2)→EndsOk top (L.foldl (putS top) l) ∧
  ∀ x,x∈L.foldl (putS top) l↔x∈l∨∃ s∈L,∃ p∈s,(x=p.1∨x=p.2+1)∧x≤top
 | [],l,h,_=>⟨h,fun x=>by simp⟩
 | s::L,l,h,hs=>by
   obtain⟨h1,_,h2⟩:=putS_ok (s:=s) h (hs s (by simp))
   obtain⟨h3,h4⟩:=endsR_go (L:=L) h1 (fun t ht=>hs t (by simp[ht]))
   refine⟨h3,fun x=>?_⟩
   show x∈L.foldl (putS top) (putS top l s)↔_
   rw[h4,h2]
   constructor
   ·rintro((h5|⟨p,h5,h6⟩)|⟨t,h5,p,h6,h7⟩)
    ·exact .inl h5
    ·exact .inr ⟨s,by simp,p,h5,h6⟩
    ·exact .inr ⟨t,by simp[h5],p,h6,h7⟩
   ·rintro(h5|⟨t,h5,p,h6,h7⟩)
    ·exact .inl (.inl h5)
    ·rcases List.mem_cons.1 h5 with rfl|h5
     ·exact .inl (.inr ⟨p,h6,h7⟩)
     ·exact .inr ⟨t,h5,p,h6,h7⟩
theorem ends0 {top:Int} (h:0≤top):EndsOk top [0]:=⟨by simp,fun x hx=>by rw[List.mem_singleton.1 hx];omega,by simp⟩
theorem endsR_ok {L:List Spans} {top:Int} (h:0≤top) (hs:∀ s∈L,SetV s):EndsOk top (endsR L top):=(endsR_go (ends0 h) fun s hs' p hp=>⟨((hs s hs').good p hp).1,((hs s hs').good p hp).2.1⟩).1
theorem endsR_mem {L:List Spans} {top:Int} (h:0≤top) (hs:∀ s∈L,SetV s) {x:Int}:x∈endsR L top↔x=0∨∃ s∈L,∃ p∈s,(x=p.1∨x=p.2+1)∧x≤top:=by
 have:=(endsR_go (ends0 h) fun s hs' p hp=>⟨((hs s hs').good p hp).1,((hs s hs').good p hp).2.1⟩).2 x
 rw[List.mem_singleton]at this
 exact this
def endS (top:Int) (i:Nat) (s:Spans):List (Int×Int):=s.flatMap fun p=>(if p.1≤top then [(p.1,(i:Int))] else [])++(if p.2+1≤top then [(p.2+1,(i:Int))] else [])
def endsP (top:Int):Nat→List Spans→List (Int×Int)
 | _,[]=>[]
 | i,s::L=>endS top i s++endsP top (i+1) L
theorem endS_mem {top:Int} {i:Nat} {s:Spans} {e:Int×Int}:e∈endS top i s↔e.2=i∧∃ p∈s,(e.1=p.1∨e.1=p.2+1)∧e.1≤top:=by
 unfold endS
 simp only[List.mem_flatMap,List.mem_append]
 constructor
 ·rintro⟨p,hp,h|h⟩
  ·split at h
   ·rw[List.mem_singleton.1 h];exact⟨rfl,p,hp,.inl rfl,by assumption⟩
   ·simp at h
  ·split at h
   ·rw[List.mem_singleton.1 h];exact⟨rfl,p,hp,.inr rfl,by assumption⟩
   ·simp at h
 ·rintro⟨h1,p,hp,h2,h3⟩
  obtain⟨a,b⟩:=e
  simp only at h1 h2 h3
  refine⟨p,hp,?_⟩
  rcases h2 with rfl|rfl
  ·left;rw[if_pos h3,h1];simp
  ·right;rw[if_pos h3,h1];simp
theorem endsP_mem {top:Int}:∀ {L:List Spans} {i:Nat} {e:Int×Int},e∈endsP top i L→(∃ k:Nat,e.2=(k:Int)∧i≤k∧k < i+L.length)∧∃ s∈L,∃ p∈s,(e.1=p.1∨e.1=p.2+1)∧e.1≤top
 | [],i,e,h=>by simp[endsP]at h
 | s::L,i,e,h=>by
   rcases List.mem_append.1 h with h|h
   ·obtain⟨h1,h2⟩:=endS_mem.1 h
    exact⟨⟨i,h1,by omega,by simp only[List.length_cons];omega⟩,s,by simp,h2⟩
   ·obtain⟨⟨k,h1,h2,h3⟩,t,ht,h4⟩:=endsP_mem h
    exact⟨⟨k,h1,by omega,by simp only[List.length_cons];omega⟩,t,by simp[ht],h4⟩
theorem endsP_has {top:Int} {x:Int}:∀ {L:List Spans} {i:Nat},(∃ s∈L,∃ p∈s,(x=p.1∨x=p.2+1)∧x≤top)→∃ e∈endsP top i L,e.1=x
 | [],i,⟨s,h,_⟩=>by simp at h
 | s::L,i,⟨t,ht,h⟩=>by
   rcases List.mem_cons.1 ht with rfl|ht
   ·exact⟨(x,(i:Int)),List.mem_append_left _ (endS_mem.2 ⟨rfl,h⟩),rfl⟩
   ·obtain⟨e,he,h2⟩:=endsP_has (L:=L) (i:=i+1) ⟨t,ht,h⟩
    exact⟨e,List.mem_append_right _ he,h2⟩
theorem endS_len (top:Int) (i:Nat) (s:Spans):(endS top i s).length≤2 * s.length:=by
 unfold endS
 induction s with
 | nil=>simp
 | cons p s ih=>
   simp only[List.flatMap_cons,List.length_append,List.length_cons]at ih ⊢
   have h1:(if p.1≤top then [(p.1,(i:Int))] else []).length≤1:=by split<;>simp
   have h2:(if p.2+1≤top then [(p.2+1,(i:Int))] else []).length≤1:=by split<;>simp
   omega
theorem endsP_len {top:Int}:∀ {L:List Spans} {i:Nat},(∀ s∈L,s.length≤64)→(endsP top i L).length≤128 * L.length
 | [],i,_=>by simp[endsP]
 | s::L,i,h=>by
   have h1:=endS_len top i s
   have h2:=endsP_len (top:=top) (L:=L) (i:=i+1) (fun t ht=>h t (by simp[ht]))
   have h3:=h s (by simp)
   simp only[endsP,List.length_append,List.length_cons];omega
theorem count_set {s:Spans} (h:SetV s) {x top:Int} (hx:x≤top) (i:Nat):(endS top i s).countP (fun e=>decide (e.1≤x)) % 2=if hasSpan s x then 1 else 0:=by
 have key:∀ s:Spans,(s.Pairwise fun p q=>p.2+2≤q.1)→(∀ p∈s,p.1≤p.2)→(endS top i s).countP (fun e=>decide (e.1≤x)) % 2=if hasSpan s x then 1 else 0:=by
  intro s
  induction s with
  | nil=>intro _ _;rfl
  | cons p s ih=>
    intro h1 h2
    have ih:=ih (List.Pairwise.of_cons h1) (fun q hq=>h2 q (by simp[hq]))
    have hp:=h2 p (by simp)
    have h3:=(List.pairwise_cons.1 h1).1
    have e:endS top i (p::s)=((if p.1≤top then [(p.1,(i:Int))] else [])++(if p.2+1≤top then [(p.2+1,(i:Int))] else []))++endS top i s:=rfl
    have hh:hasSpan (p::s) x=((decide (p.1≤x) && decide (x≤p.2)) || hasSpan s x):=rfl
    have c1:(if p.1≤top then [(p.1,(i:Int))] else []).countP (fun e=>decide (e.1≤x))=if p.1≤x then 1 else 0:=by
     by_cases h4:p.1≤x
     ·rw[if_pos (show p.1≤top by omega),if_pos h4];simp[h4]
     ·rw[if_neg h4];split<;>simp[h4]
    have c2:(if p.2+1≤top then [(p.2+1,(i:Int))] else []).countP (fun e=>decide (e.1≤x))=if p.2+1≤x then 1 else 0:=by
     by_cases h4:p.2+1≤x
     ·rw[if_pos (show p.2+1≤top by omega),if_pos h4];simp[h4]
     ·rw[if_neg h4];split<;>simp[h4]
    rw[e,List.countP_append,List.countP_append,c1,c2,hh]
    by_cases h4:p.1≤x
    ·by_cases h5:x≤p.2
     ·have h6:hasSpan s x=false:=by
       unfold hasSpan
       rw[List.any_eq_false]
       intro q hq
       have:=h3 q hq
       simp;omega
      have h7:¬ p.2+1≤x:=by omega
      rw[h6]at ih
      simp only[h6,h4,h5,h7,if_true,if_false,decide_true,Bool.and_self,Bool.or_false]
      simp at ih ⊢;omega
     ·have h7:p.2+1≤x:=by omega
      simp only[h4,h5,h7,if_true,decide_true,decide_false,Bool.and_false,Bool.false_or]
      rw[← ih];omega
    ·have h7:¬ p.2+1≤x:=by omega
     simp only[h4,h7,if_false,decide_false,Bool.false_and,Bool.false_or]
     rw[← ih];simp
 exact key s h.sep (fun p hp=>(h.good p hp).2.1)
theorem endS_other {top:Int} {i j:Nat} (h:i≠j) (s:Spans) (x:Int):(endS top i s).countP (fun e=>decide (e.1≤x) && decide (e.2=(j:Int)))=0:=by
 rw[List.countP_eq_zero]
 intro e he
 have:=(endS_mem.1 he).1
 simp[this]
 intro _;omega
theorem endS_same {top:Int} {i:Nat} (s:Spans) (x:Int):(endS top i s).countP (fun e=>decide (e.1≤x) && decide (e.2=(i:Int)))=(endS top i s).countP (fun e=>decide (e.1≤x)):=by
 refine List.countP_congr fun e he=>?_
 have:=(endS_mem.1 he).1
 simp[this]
theorem count_ends {top x:Int} (hx:x≤top):∀ {L:List Spans} {i j:Nat},(∀ s∈L,SetV s)→i≤j→(endsP top i L).countP (fun e=>decide (e.1≤x) && decide (e.2=(j:Int))) % 2=if(colA L x).getD (j - i) false then 1 else 0
 | [],i,j,_,_=>by simp[endsP,colA]
 | s::L,i,j,h,hij=>by
   simp only[endsP,List.countP_append]
   rcases Nat.lt_or_ge i j with h1|h1
   ·have ih:=count_ends hx (L:=L) (i:=i+1) (j:=j) (fun t ht=>h t (by simp[ht])) h1
    rw[endS_other (by omega),Nat.zero_add,ih]
    obtain⟨k,rfl⟩:∃ k,j=i+1+k:=⟨j - (i+1),by omega⟩
    have e1:i+1+k - (i+1)=k:=by omega
    have e2:i+1+k - i=k+1:=by omega
    rw[e1,e2]
    simp[colA]
   ·obtain rfl:j=i:=by omega
    have h2:(endsP top (j+1) L).countP (fun e=>decide (e.1≤x) && decide (e.2=(j:Int)))=0:=by
     rw[List.countP_eq_zero]
     intro e he
     obtain⟨⟨k,h3,h4,h5⟩,_⟩:=endsP_mem he
     simp[h3]
     intro _;omega
    rw[h2,Nat.add_zero,endS_same,count_set (h s (by simp)) hx]
    simp[colA]
def WR (w:List Int) (b:Nat→Bool):Prop:=w.length=16∧∀ i,i < 16→∃ x:Nat,w[i]?=some (x:Int)∧x < 2 ^ 64∧∀ r,r < 64→x.testBit r=b (64 * i+r)
theorem WR.uniq {w w':List Int} {b b':Nat→Bool} (h:WR w b) (h':WR w' b') (hb:∀ j,j < 1024→b j=b' j):w=w':=by
 refine List.ext_getElem? fun i=>?_
 rcases Nat.lt_or_ge i 16 with hi|hi
 ·obtain⟨x,h1,h2,h3⟩:=h.2 i hi
  obtain⟨y,h4,h5,h6⟩:=h'.2 i hi
  have:x=y:=by
   refine Nat.eq_of_testBit_eq fun r=>?_
   rcases Nat.lt_or_ge r 64 with hr|hr
   ·rw[h3 r hr,h6 r hr,hb _ (by omega)]
   ·rw[Nat.testBit_lt_two_pow (Nat.lt_of_lt_of_le h2 (Nat.pow_le_pow_right (by omega) hr)),Nat.testBit_lt_two_pow (Nat.lt_of_lt_of_le h5 (Nat.pow_le_pow_right (by omega) hr))]
  rw[h1,h4,this]
 ·rw[List.getElem?_eq_none (by rw[h.1];exact hi),List.getElem?_eq_none (by rw[h'.1];exact hi)]
theorem WR.inj {w:List Int} {b b':Nat→Bool} (h:WR w b) (h':WR w b') {j:Nat} (hj:j < 1024):b j=b' j:=by
 obtain⟨x,h1,h2,h3⟩:=h.2 (j / 64) (by omega)
 obtain⟨y,h4,h5,h6⟩:=h'.2 (j / 64) (by omega)
 rw[h1]at h4
 have:x=y:=by have:=Option.some.inj h4;omega
 subst this
 have e:64 * (j / 64)+j % 64=j:=by omega
 have h7:=h3 (j % 64) (by omega)
 have h8:=h6 (j % 64) (by omega)
 rw[e]at h7 h8
 rw[← h7,h8]
theorem WR.congr {w:List Int} {b b':Nat→Bool} (h:WR w b) (hb:∀ j,j < 1024→b j=b' j):WR w b':=by
 refine⟨h.1,fun i hi=>?_⟩
 obtain⟨x,h1,h2,h3⟩:=h.2 i hi
 exact⟨x,h1,h2,fun r hr=>by rw[h3 r hr,hb _ (by omega)]⟩
theorem WR.zero:WR (List.replicate 16 0) fun _=>false:=by
 refine⟨rfl,fun i hi=>⟨0,?_,by decide,fun r _=>by simp⟩⟩
 rw[List.getElem?_replicate,if_pos hi];rfl
def xorW (x:Int) (r:Nat):Int:=IntKind.u64.wrap ((BitVec.ofInt 64 x ^^^ BitVec.ofInt 64 (2 ^ r:Int)).toNat:Int)
theorem xorW_eq {x r:Nat} (hx:x < 2 ^ 64) (hr:r < 64):xorW (x:Int) r=((x ^^^ 2 ^ r:Nat):Int):=by
 have h1:(2:Nat) ^ r < 2 ^ 64:=Nat.pow_lt_pow_right (by omega) hr
 have h2:x ^^^ 2 ^ r < 2 ^ 64:=Nat.xor_lt_two_pow hx h1
 have e1:(BitVec.ofInt 64 (x:Int)).toNat=x:=by
  rw[BitVec.ofInt_natCast,BitVec.toNat_ofNat,Nat.mod_eq_of_lt hx]
 have e2:(BitVec.ofInt 64 (2 ^ r:Int)).toNat=2 ^ r:=by
  have:(2 ^ r:Int)=((2 ^ r:Nat):Int):=by simp
  rw[this,BitVec.ofInt_natCast,BitVec.toNat_ofNat,Nat.mod_eq_of_lt h1]
 unfold xorW
 rw[BitVec.toNat_xor,e1,e2]
 simp only[IntKind.wrap,IntKind.bits,IntKind.signed]
 simp
 omega
theorem WR.tog {w:List Int} {b:Nat→Bool} (h:WR w b) {s:Nat} (hs:s < 1024) {x:Int} (hx:w[s / 64]?=some x):WR (w.set (s / 64) (xorW x (s % 64))) fun j=>if j=s then !b j else b j:=by
 refine⟨by rw[List.length_set];exact h.1,fun i hi=>?_⟩
 obtain⟨y,h1,h2,h3⟩:=h.2 i hi
 by_cases e:s / 64=i
 ·subst e
  rw[h1]at hx
  obtain rfl:(y:Int)=x:=Option.some.inj hx
  rw[List.getElem?_set_self (by rw[h.1];exact hi),xorW_eq h2 (by omega)]
  refine⟨_,rfl,Nat.xor_lt_two_pow h2 (Nat.pow_lt_pow_right (by omega) (by omega)),fun r hr=>?_⟩
  rw[Nat.testBit_xor,h3 r hr,Nat.testBit_two_pow]
  by_cases e2:s % 64=r
  ·have e3:64 * (s / 64)+r=s:=by omega
   simp only[if_pos e3];simp[e2]
  ·simp only[if_neg (show ¬ 64 * (s / 64)+r=s by omega)];simp[e2]
 ·rw[List.getElem?_set_ne e]
  refine⟨y,h1,h2,fun r hr=>?_⟩
  simp only[if_neg (show ¬ 64 * i+r=s by omega)];exact h3 r hr
def par (l:List (Int×Int)) (j:Nat):Bool:=l.countP (fun e=>decide (e.2=(j:Int))) % 2 == 1
theorem par_snoc (l:List (Int×Int)) (a:Int) (s:Nat):par (l++[(a,(s:Int))])=fun j=>if j=s then !par l j else par l j:=by
 funext j
 unfold par
 rw[List.countP_append]
 by_cases h:j=s
 ·subst h
  simp[List.countP_cons]
  rcases Nat.mod_two_eq_zero_or_one (l.countP fun e=>decide (e.2=(j:Int))) with h2|h2
  ·rw[h2];simp;omega
  ·rw[h2];simp;omega
 ·have:¬ ((s:Int)=(j:Int)):=by omega
  simp[List.countP_cons,this,h]
section scan
variable {L:List Spans} {top:Int} {S:List (Int×Int)} {E:List Int}
structure ScanOk (L:List Spans) (top:Int) (S:List (Int×Int)) (E:List Int):Prop where
 sets:∀ s∈L,SetV s
 top0:0≤top
 many:L.length≤1024
 perm:S.Perm (endsP top 0 L)
 sorted:S.Pairwise fun a b=>a.1≤b.1
 ends:EndsOk top E
 mem:∀ x,x∈E↔x=0∨∃ s∈L,∃ p∈s,(x=p.1∨x=p.2+1)∧x≤top
def From (S:List (Int×Int)) (j:Nat) (x:Int):Prop:=(∀ i e,i < j→S[i]?=some e→e.1 < x)∧∀ i e,j≤i→S[i]?=some e→x≤e.1
def Past (S:List (Int×Int)) (j:Nat) (x:Int):Prop:=(∀ i e,i < j→S[i]?=some e→e.1≤x)∧∀ i e,j≤i→S[i]?=some e→x < e.1
theorem ScanOk.at (h:ScanOk L top S E) {j:Nat} {e:Int×Int} (he:S[j]?=some e):(∃ k:Nat,e.2=(k:Int)∧k < L.length)∧e.1∈E∧0≤e.1∧e.1≤top:=by
 have hm:=h.perm.mem_iff.1 (List.mem_of_getElem? he)
 obtain⟨⟨k,h1,_,h2⟩,h3⟩:=endsP_mem hm
 have hE:=(h.mem e.1).2 (.inr h3)
 exact⟨⟨k,h1,by omega⟩,hE,h.ends.le _ hE⟩
theorem ScanOk.has (h:ScanOk L top S E) {x:Int} (hx:x∈E) (h0:x≠0):∃(j:Nat) (e:Int×Int),S[j]?=some e∧e.1=x:=by
 rcases(h.mem x).1 hx with h1|h1
 ·exact absurd h1 h0
 ·obtain⟨e,he,h2⟩:=endsP_has (i:=0) h1
  obtain⟨j,hj⟩:=List.getElem?_of_mem (h.perm.mem_iff.2 he)
  exact⟨j,e,hj,h2⟩
theorem Past.par (h:ScanOk L top S E) {j:Nat} {x:Int} (hx:x≤top) (hp:Past S j x) (k:Nat):par (S.take j) k=(colA L x).getD k false:=by
 have h1:=count_ends hx (L:=L) (i:=0) (j:=k) h.sets (Nat.zero_le _)
 rw[← h.perm.countP_eq,Nat.sub_zero]at h1
 have h2:S.countP (fun e=>decide (e.1≤x) && decide (e.2=(k:Int)))=(S.take j).countP fun e=>decide (e.2=(k:Int)):=by
  conv=>lhs;rw[← List.take_append_drop j S,List.countP_append]
  have e1:(S.drop j).countP (fun e=>decide (e.1≤x) && decide (e.2=(k:Int)))=0:=by
   rw[List.countP_eq_zero]
   intro e he
   obtain⟨i,hi⟩:=List.getElem?_of_mem he
   rw[List.getElem?_drop]at hi
   have:=hp.2 (j+i) e (by omega) hi
   simp;intro _;omega
  rw[e1,Nat.add_zero]
  refine List.countP_congr fun e he=>?_
  obtain⟨i,hi⟩:=List.getElem?_of_mem he
  rw[List.getElem?_take]at hi
  split at hi
  ·have:=hp.1 i e (by assumption) hi
   simp[this]
  ·cases hi
 unfold Ev.par
 rw[← h2,h1]
 cases (colA L x).getD k false<;>rfl
theorem lastP_of {E:List Int} {top x:Int} {k:Nat} (h:E[k]?=some x):lastP E top k=x:=by simp[lastP,h]
theorem lastP_end {E:List Int} {top:Int} {k:Nat} (h:E.length≤k):lastP E top k=top+1:=by simp[lastP,List.getElem?_eq_none h]
theorem EndsOk.lt (h:EndsOk top E) {i j:Nat} {x y:Int} (hi:E[i]?=some x) (hj:E[j]?=some y) (hij:i < j):x < y:=by
 obtain⟨h1,e1⟩:=List.getElem?_eq_some_iff.1 hi
 obtain⟨h2,e2⟩:=List.getElem?_eq_some_iff.1 hj
 have:=List.pairwise_iff_getElem.1 h.sorted i j h1 h2 hij
 rw[e1,e2]at this;exact this
theorem EndsOk.first (h:EndsOk top E):E[0]?=some 0:=by
 obtain⟨j,hj⟩:=List.getElem?_of_mem h.zero
 rcases Nat.eq_zero_or_pos j with rfl|h0
 ·exact hj
 ·have hlt:=(List.getElem?_eq_some_iff.1 hj).1
  obtain⟨x,hx⟩:∃ x,E[0]?=some x:=⟨_,List.getElem?_eq_getElem (by omega)⟩
  have h1:=h.lt hx hj h0
  have h2:=h.le x (List.mem_of_getElem? hx)
  omega
theorem EndsOk.step (h:EndsOk top E) {k:Nat} (hk:k < E.length):lastP E top k < lastP E top (k+1)∧0≤lastP E top k∧lastP E top k≤top∧lastP E top (k+1)≤top+1:=by
 obtain⟨x,hx⟩:∃ x,E[k]?=some x:=⟨_,List.getElem?_eq_getElem hk⟩
 have hl:=h.le x (List.mem_of_getElem? hx)
 rw[lastP_of hx]
 rcases Nat.lt_or_ge (k+1) E.length with h1|h1
 ·obtain⟨y,hy⟩:∃ y,E[k+1]?=some y:=⟨_,List.getElem?_eq_getElem h1⟩
  have hl2:=h.le y (List.mem_of_getElem? hy)
  rw[lastP_of hy]
  exact⟨h.lt hx hy (by omega),hl.1,hl.2,by omega⟩
 ·rw[lastP_end h1]
  exact⟨by omega,hl.1,hl.2,by omega⟩
theorem EndsOk.mono (h:EndsOk top E) {i j:Nat} (hij:i < j) (hj:j≤E.length):lastP E top i < lastP E top j:=by
 obtain⟨x,hx⟩:∃ x,E[i]?=some x:=⟨_,List.getElem?_eq_getElem (by omega)⟩
 rw[lastP_of hx]
 rcases Nat.lt_or_ge j E.length with h1|h1
 ·obtain⟨y,hy⟩:∃ y,E[j]?=some y:=⟨_,List.getElem?_eq_getElem h1⟩
  rw[lastP_of hy]
  exact h.lt hx hy hij
 ·rw[lastP_end h1]
  have:=(h.le x (List.mem_of_getElem? hx)).2
  omega
theorem Past.next (h:ScanOk L top S E) {j k:Nat} (hk:k < E.length) (hp:Past S j (lastP E top k)):lastP E top (k+1)=(match S[j]? with
  | some e=>e.1
  | none=>top+1)∧From S j (lastP E top (k+1)):=by
 obtain⟨x,hx⟩:∃ x,E[k]?=some x:=⟨_,List.getElem?_eq_getElem hk⟩
 have hl:=h.ends.le x (List.mem_of_getElem? hx)
 rw[lastP_of hx]at hp
 have hsort:∀(i i':Nat) (e e':Int×Int),i≤i'→S[i]?=some e→S[i']?=some e'→e.1≤e'.1:=fun i i' e e' hii h1 h2=>by
  rcases Nat.lt_or_eq_of_le hii with h3|rfl
  ·obtain⟨l1,q1⟩:=List.getElem?_eq_some_iff.1 h1
   obtain⟨l2,q2⟩:=List.getElem?_eq_some_iff.1 h2
   have:=List.pairwise_iff_getElem.1 h.sorted i i' l1 l2 h3
   rw[q1,q2]at this;exact this
  ·rw[h1]at h2;rw[Option.some.inj h2];exact Int.le_refl _
 have later:∀(m:Nat) (y:Int),k < m→E[m]?=some y→∃(i:Nat) (e:Int×Int),j≤i∧S[i]?=some e∧e.1=y:=fun m y hm hy=>by
  have hlt:=h.ends.lt hx hy hm
  obtain⟨i,e,hi,he⟩:=h.has (List.mem_of_getElem? hy) (by omega)
  refine⟨i,e,?_,hi,he⟩
  rcases Nat.lt_or_ge i j with h1|h1
  ·have:=hp.1 i e h1 hi;omega
  ·exact h1
 cases hS:S[j]? with
 | none=>
   have hk1:E.length≤k+1:=by
    rcases Nat.lt_or_ge (k+1) E.length with h1|h1
    ·obtain⟨i,e,h2,h3,_⟩:=later (k+1) _ (by omega) (List.getElem?_eq_getElem h1)
     have:=(List.getElem?_eq_some_iff.1 h3).1
     have:=List.getElem?_eq_none_iff.1 hS
     omega
    ·exact h1
   rw[lastP_end hk1]
   refine⟨rfl,fun i e hi he=>?_,fun i e hi he=>?_⟩
   ·have:=hp.1 i e hi he;omega
   ·have h1:=(List.getElem?_eq_some_iff.1 he).1
    have h2:=List.getElem?_eq_none_iff.1 hS
    omega
 | some e=>
   have hgt:=hp.2 j e (Nat.le_refl _) hS
   obtain⟨m,hm⟩:=List.getElem?_of_mem (h.at hS).2.1
   have hkm:k < m:=by
    rcases Nat.lt_or_ge k m with h1|h1
    ·exact h1
    ·rcases Nat.lt_or_eq_of_le h1 with h2|rfl
     ·have:=h.ends.lt hm hx h2;omega
     ·rw[hm]at hx;have:=Option.some.inj hx;omega
   have hmlt:=(List.getElem?_eq_some_iff.1 hm).1
   obtain⟨y,hy⟩:∃ y,E[k+1]?=some y:=⟨_,List.getElem?_eq_getElem (by omega)⟩
   obtain⟨i,e',h1,h2,h3⟩:=later (k+1) y (by omega) hy
   have h4:=hsort j i e e' h1 hS h2
   have h5:y≤e.1:=by
    rcases Nat.lt_or_eq_of_le (show k+1≤m by omega) with h6|rfl
    ·exact Int.le_of_lt (h.ends.lt hy hm h6)
    ·rw[hy]at hm;rw[Option.some.inj hm];exact Int.le_refl _
   have h6:y=e.1:=by omega
   rw[lastP_of hy,h6]
   refine⟨rfl,fun i' e2 hi he=>?_,fun i' e2 hi he=>hsort j i' e e2 hi hS he⟩
   have:=hp.1 i' e2 hi he;omega
theorem From.zero (h:ScanOk L top S E):From S 0 0:=⟨fun i e hi=>by omega,fun i e _ he=>(h.at he).2.2.1⟩
def Mid (S:List (Int×Int)) (j:Nat) (x:Int):Prop:=(∀ i e,i < j→S[i]?=some e→e.1≤x)∧∀ i e,j≤i→S[i]?=some e→x≤e.1
theorem From.mid {j:Nat} {x:Int} (h:From S j x):Mid S j x:=⟨fun i e hi he=>Int.le_of_lt (h.1 i e hi he),h.2⟩
theorem Mid.step {j:Nat} {x:Int} (h:Mid S j x) {e:Int×Int} (he:S[j]?=some e) (hx:e.1=x):Mid S (j+1) x:=by
 refine⟨fun i e' hi h1=>?_,fun i e' hi h1=>h.2 i e' (by omega) h1⟩
 rcases Nat.lt_succ_iff_lt_or_eq.1 hi with h2|rfl
 ·exact h.1 i e' h2 h1
 ·rw[he]at h1;rw[← Option.some.inj h1];omega
theorem Mid.past (hs:S.Pairwise fun a b=>a.1≤b.1) {j:Nat} {x:Int} (h:Mid S j x) (hn:∀ e,S[j]?=some e→e.1≠x):Past S j x:=by
 refine⟨h.1,fun i e hi he=>?_⟩
 have hlt:=(List.getElem?_eq_some_iff.1 he).1
 obtain⟨e0,h0⟩:∃ e0,S[j]?=some e0:=⟨_,List.getElem?_eq_getElem (by omega)⟩
 have h1:=h.2 j e0 (Nat.le_refl _) h0
 have h2:=hn e0 h0
 have h3:e0.1≤e.1:=by
  rcases Nat.lt_or_eq_of_le hi with h4|rfl
  ·obtain⟨l1,q1⟩:=List.getElem?_eq_some_iff.1 h0
   have:=List.pairwise_iff_getElem.1 hs j i l1 hlt h4
   rw[q1,(List.getElem?_eq_some_iff.1 he).2]at this;exact this
  ·rw[h0]at he;rw[Option.some.inj he];exact Int.le_refl _
 omega
end scan
end Go.Ev
