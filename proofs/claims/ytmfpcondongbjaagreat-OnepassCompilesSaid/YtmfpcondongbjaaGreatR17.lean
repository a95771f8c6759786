/- Functions of the program, each with what it computes; no further conditions. -/
import Derived.Test.YtmfpcondongbjaaGreatR07
import Derived.Test.YtmfpcondongbjaaGreatR08
import Derived.Test.YtmfpcondongbjaaGreatR16
import Derived.Test.YtmfpcondongbjaaGreatR15
import Derived.Test.YtmfpcondongbjaaGreatR14
import Derived.Test.YtmfpcondongbjaaGreatR12
import Derived.Test.YtmfpcondongbjaaGreatR13
set_option linter.unusedVariables false
set_option linter.unusedSimpArgs false
namespace Go.Ev
attribute [local go_sem] evAppend evBuild splice
section
attribute [local go_sem] W_block tySzE List.head?_drop Nat.mul_one sameAt_zero sameAt_two sameAt_three sameAt_four sameAt_five room_ok
open Go.Proofs Go.RowKit Go.IntWalk
set_option maxRecDepth 100000
set_option maxHeartbeats 16000000
theorem f38 (l:List (Int×Int)) (hl:l.length≤1000000) (x y:MB):call Tryz.prog pol1 38 [.sl false (l.map spanAV)] [x,y]=some (.sl false (l.map spanAV),[x,y]):=by
 rw[call_eq]
 unfold evStep
 rw[if_neg (show ¬ pol1.pure 38=true by decide),if_neg (by decide)]
 show cloneExt 2 16 [.sl false (l.map spanAV)] [x,y]=_
 have h1:((l.map spanAV).all fun y=>decide (y.cells.length=2) && y.cells.all AV.ok)=true:=by
  rw[List.all_eq_true]
  intro y hy
  obtain⟨p,_,rfl⟩:=List.mem_map.1 hy
  rfl
 have h2:roomFor (l.map spanAV).length 16=true:=room_ok (by simp;omega) (by omega)
 unfold cloneExt
 simp only[elemsOf]
 rw[if_pos ⟨h1,h2,plain_span l⟩]
theorem f37 (l:List Ins) (hl:0 < l.length∧l.length≤1000000) (K:List MB):call Tryz.prog pol1 37 [.sl false (l.map insAV)] K=some (.ms K.length 5 l.length 0 l.length,K++[.row 5 (l.map insAV) 0]):=by
 rw[call_eq]
 unfold evStep
 rw[if_neg (show ¬ pol1.pure 37=true by decide),if_neg (by decide)]
 show cloneExtO 5 56 [.sl false (l.map insAV)] K=_
 have h1:((l.map insAV).all fun y=>decide (y.cells.length=5) && y.cells.all AV.ok)=true:=by
  rw[List.all_eq_true]
  intro y hy
  obtain⟨p,_,rfl⟩:=List.mem_map.1 hy
  rfl
 have h2:roomFor (l.map insAV).length 56=true:=room_ok (by simp;omega) (by omega)
 unfold cloneExtO
 simp only[elemsOf]
 rw[if_pos ⟨h1,h2⟩]
 cases l with
 | nil=>simp at hl
 | cons y ys=>simp
theorem g12_bad (g:Prg) (hb:PrgB g) (ha:acceptG g≠0) (H:List MB):call Tryz.prog pol1 12 [prgAV g] H=some (.tup [.nilp,I (acceptG g)],H):=by
 have h35:=f35 g hb
 refine call_run Tryz.func12 rfl rfl rfl rfl rfl rfl (fun _=>rfl) (by simp[AV.plain,AV.plainL,plain_ints,plain_span,plain_ins,plain_prg]) (by simp[AV.plain,AV.plainL,plain_ints,plain_span,plain_ins,plain_prg]) ?_ H
 simp +contextual (disch:=omega) only[Tryz.f12,dd12,go_sem,simprocAttr,mu12,↓wrap_up,↓wrap_down,↓wrap_pred,↓wrap_sub_nat,h35,ha]
 exact⟨_,rfl⟩
theorem g14_bad (g:Prg) (hb:PrgB g) (ha:acceptG g≠0) (H:List MB):call Tryz.prog pol1 14 [prgAV g] H=some (.tup [.sl false [],.bool false,I (acceptG g)],H):=by
 have h35:=f35 g hb
 refine call_run Tryz.func14 rfl rfl rfl rfl rfl rfl (fun _=>rfl) (by simp[AV.plain,AV.plainL,plain_ints,plain_span,plain_ins,plain_prg]) (by simp[AV.plain,AV.plainL,plain_ints,plain_span,plain_ins,plain_prg]) ?_ H
 simp +contextual (disch:=omega) only[Tryz.f14,dd14,go_sem,simprocAttr,mu14,↓wrap_up,↓wrap_down,↓wrap_pred,↓wrap_sub_nat,h35,ha]
 exact⟨_,rfl⟩
theorem g12 (g:Prg) (hb:PrgB g) (ha:acceptG g=0):∃ r:AV,(∃ xs fk,Explored g.ins xs fk∧r=if fk=true then .tup [.nilp,I 10] else .tup [.pt [.sl false (g.ins.map insAV),I g.caps,NV xs.length],I 0])∧∀ H,call Tryz.prog pol1 12 [prgAV g] H=some (r,H):=by
 have h35:=f35 g hb
 rw[ha]at h35
 have h:=okP_of ha
 have hl:=h.len
 obtain⟨r36,⟨xs,fk,hex,rfl⟩,h36⟩:=f36 h
 have h37:=f37 g.ins ⟨h.pos,by omega⟩
 refine call_runA Tryz.func12 rfl rfl rfl rfl rfl rfl (fun _=>rfl) (by simp[AV.plain,AV.plainL,plain_ints,plain_span,plain_ins,plain_prg]) ?_ ?_
 ·rintro r ⟨xs,fk,_,rfl⟩
  split
  ·rfl
  ·simp[AV.plain,AV.plainL,plain_ins]
 cases fk with
 | true=>
   simp +contextual (disch:=omega) only[Tryz.f12,dd12,go_sem,simprocAttr,mu12,↓wrap_up,↓wrap_down,↓wrap_pred,↓wrap_sub_nat,h35,h36]
   exact⟨_,⟨xs,true,hex,rfl⟩,_,rfl⟩
 | false=>
   simp +contextual (disch:=omega) only[Tryz.f12,dd12,go_sem,simprocAttr,mu12,↓wrap_up,↓wrap_down,↓wrap_pred,↓wrap_sub_nat,h35,h36,h37]
   refine W_count (M:=(mskOf (pol1.mask 12) (pol1.gc 12) (pol1.acts 12) 0 9)) (by rfl) g.ins.length (fun i=>(⟨47,[(26,NV i),(25,NV g.ins.length),(7,.ms 1 5 g.ins.length 0 g.ins.length),(5,.sl false (xs.map rsAV)),(1,.rf 0 1 0 0)],[.row 3 [prgAV g] 0,.row 5 (g.ins.map insAV) 0]⟩:St)) (fun _=>True) ?_ ?_ trivial _ ?_
   ·intro i hi _
    obtain⟨p,hp⟩:∃ p,g.ins[i]?=some p:=⟨_,List.getElem?_eq_getElem hi⟩
    have hp':(g.ins.map insAV)[i]?=some (insAV p):=by simp[hp]
    have hset:(g.ins.map insAV).set i (insAV p)=g.ins.map insAV:=by
     apply List.ext_getElem?
     intro q
     by_cases e:i=q
     ·subst e;rw[List.getElem?_set_self (by simpa using hi),hp']
     ·rw[List.getElem?_set_ne e]
    have hc29:=fun x y:MB=>f38 p.set (hb.2 p (List.mem_of_getElem? hp)) x y
    have hlt:((i:Int) < ((g.ins.length:Nat):Int))=True:=eq_true (by omega)
    have hwi:IntKind.i64.wrap ((i:Int)+1)=((i+1:Nat):Int):=by rw[i64_in]<;>omega
    simp +contextual (disch:=omega) only[Tryz.f12,dd12,go_sem,simprocAttr,mu12,↓wrap_up,↓wrap_down,↓wrap_pred,↓wrap_sub_nat,hp',hc29,hset,hlt,hwi,nonneg_nat]
    rfl
   ·intro _
    simp +contextual (disch:=omega) only[Tryz.f12,dd12,go_sem,simprocAttr,mu12,↓wrap_up,↓wrap_down,↓wrap_pred,↓wrap_sub_nat]
    have h1:fzA (fzJ 5) (.ms 1 5 g.ins.length 0 g.ins.length) [.row 3 [prgAV g] 0,.row 5 (g.ins.map insAV) 0,.row 3 [.agg [.ms 1 5 g.ins.length 0 g.ins.length,I g.caps,NV xs.length]] 1]=some (.sl false (g.ins.map insAV),_):=fzA_row (n:=4) rfl (by simp) (plain_ins _)
    have h2:fzA (fzJ 6) (.rf 2 1 0 0) [.row 3 [prgAV g] 0,.row 5 (g.ins.map insAV) 0,.row 3 [.agg [.ms 1 5 g.ins.length 0 g.ins.length,I g.caps,NV xs.length]] 0]=some (.pt [.sl false (g.ins.map insAV),I g.caps,NV xs.length],mark [.row 3 [prgAV g] 0,.row 5 (g.ins.map insAV) 0,.row 3 [.agg [.ms 1 5 g.ins.length 0 g.ins.length,I g.caps,NV xs.length]] 1] 1 g.ins.length):=by
     show (match fzL (fzJ 5) [.ms 1 5 g.ins.length 0 g.ins.length,I g.caps,NV xs.length] [.row 3 [prgAV g] 0,.row 5 (g.ins.map insAV) 0,.row 3 [.agg [.ms 1 5 g.ins.length 0 g.ins.length,I g.caps,NV xs.length]] 1] with
      | some (ys,H')=>some (AV.pt ys,H')
      | none=>none)=_
     simp only[fzL,h1,fzA_int]
    refine⟨_,⟨xs,false,hex,rfl⟩,mark [.row 3 [prgAV g] 0,.row 5 (g.ins.map insAV) 0,.row 3 [.agg [.ms 1 5 g.ins.length 0 g.ins.length,I g.caps,NV xs.length]] 1] 1 g.ins.length,?_⟩
    simp only[fz,fzA_tup,fzL,h2,fzA_int]
    rfl
   ·rfl
end
section
attribute [local go_sem] W_block tySzE List.head?_drop Nat.mul_one sameAt_zero sameAt_two sameAt_three sameAt_four sameAt_five room_ok
open Go.Proofs Go.RowKit Go.IntWalk
set_option maxRecDepth 100000
set_option maxHeartbeats 16000000
def disAll:List (Int×Int)→Bool
 | []=>true
 | p::l=>l.all (fun q=>decide (p.2 < q.1) || decide (q.2 < p.1)) && disAll l
theorem disAll_iff:∀ l:List (Int×Int),disAll l=true↔l.Pairwise DisS
 | []=>by simp[disAll]
 | p::l=>by
   simp only[disAll,Bool.and_eq_true,List.all_eq_true,Bool.or_eq_true,decide_eq_true_eq,List.pairwise_cons,disAll_iff l]
   rfl
def forkB (ins:List Ins) (st:Nat):Bool:=(fromS ins st).tw || (decide (1 < (exS ins st).dn) || !disAll (exS ins st).sp)
theorem forkB_iff (ins:List Ins) (st:Nat):forkB ins st=true↔ForkS ins st:=by
 unfold forkB ForkS
 rw[← disAll_iff]
 simp
def srchB (ins:List Ins) (syms:List Int):Nat→Nat→List RS→List RS×Bool
 | 0,_,xs=>(xs,false)
 | f+1,i,xs=>match xs[i]? with
   | none=>(xs,false)
   | some r=>if forkB ins r.st=true then(xs.take (i+1),true) else srchB ins syms f (i+1) (syms.foldl (addS ins i r) xs)
theorem srchB_eq (ins:List Ins) (syms:List Int):∀(f i:Nat) (xs:List RS),srchB ins syms f i xs=srch ins syms f i xs
 | 0,i,xs=>rfl
 | f+1,i,xs=>by
   unfold srchB srch
   cases xs[i]? with
   | none=>rfl
   | some r=>
     simp only
     by_cases h:forkB ins r.st=true
     ·rw[if_pos h,if_pos ((forkB_iff _ _).1 h)]
     ·rw[if_neg h,if_neg fun hf=>h ((forkB_iff _ _).2 hf)]
      exact srchB_eq ins syms f (i+1) _
def thenP (c:Int):Prg:=⟨[⟨2,1,3,0,[]⟩,⟨1,0,0,0,[(97,97)]⟩,⟨3,0,0,0,[]⟩,⟨1,0,0,0,[(c,c)]⟩,⟨0,0,0,0,[]⟩],0,false⟩
def bothP:Prg:=⟨[⟨1,0,0,0,[(98,98)]⟩,⟨2,2,4,0,[]⟩,⟨1,0,0,0,[(97,97)]⟩,⟨3,6,0,0,[]⟩,⟨1,0,0,0,[(97,97)]⟩,⟨1,0,0,0,[(98,98)]⟩,⟨0,0,0,0,[]⟩],0,false⟩
noncomputable def polV:Pol:={ pol0 with pure:=fun f=>!(12::14::notPure).contains f,ext:=fun f=>if f=54 then none else if f=12 then some (call Tryz.prog pol1 12) else if f=14 then some (call Tryz.prog pol1 14) else pol0.ext f,muts:=fun f=>if f=42 then [1000012,1000016] else if f=19 then [1000090,1000095] else if f=44 then [3000000] else pol0.muts f }
theorem srB:srch (thenP 98).ins [97,98] 6 0 xs0=([⟨0,-1,0,[]⟩,⟨2,0,97,[97]⟩,⟨4,0,98,[98]⟩],false):=by
 rw[← srchB_eq]
 rfl
theorem srA:∃ xs,srch (thenP 97).ins [97] 6 0 xs0=(xs,true)∧lastTx xs=[]:=by
 refine⟨[⟨0,-1,0,[]⟩],?_,rfl⟩
 rw[← srchB_eq]
 rfl
theorem srP:∃ xs,srch bothP.ins [97,98] 8 0 xs0=(xs,true)∧lastTx xs=[98]:=by
 refine⟨[⟨0,-1,0,[]⟩,⟨1,0,98,[98]⟩],?_,rfl⟩
 rw[← srchB_eq]
 rfl
theorem least_of {ins:List Ins} {l:List Int} (h1:l.Pairwise (·< ·)) (h2:l.length≤ins.length) (h3:(List.range ins.length).all (fun n=>match ins[n]? with
  | some x=>!(decide (x.op=1) && decide (0 < x.set.length)) || l.contains (keyI ins n)
  | none=>true)=true):LeastTo ins ins.length l:=by
 refine⟨h1,fun n x hn hx ho hs=>?_,h2⟩
 have:=List.all_eq_true.1 h3 n (List.mem_range.2 hn)
 simp only[hx,ho,hs,decide_true,Bool.and_self,Bool.not_true,Bool.false_or]at this
 simpa using this
theorem lsB:LeastTo (thenP 98).ins (thenP 98).ins.length [97,98]:=least_of (by simp) (by decide) (by decide)
theorem lsA:LeastTo (thenP 97).ins (thenP 97).ins.length [97]:=least_of (by simp) (by decide) (by decide)
theorem lsP:LeastTo bothP.ins bothP.ins.length [97,98]:=least_of (by simp) (by decide) (by decide)
theorem prgB_small {g:Prg} (h:g.ins.all (fun i=>decide (i.set.length≤1))=true) (h2:g.ins.length≤20):PrgB g:=⟨by omega,fun i hi=>by
 have:=List.all_eq_true.1 h i hi
 simp at this
 omega⟩
theorem c12b:∀ H,call Tryz.prog pol1 12 [prgAV (thenP 98)] H=some (.tup [.pt [.sl false ((thenP 98).ins.map insAV),I 0,I 3],I 0],H):=by
 obtain⟨r,⟨xs,fk,hex,rfl⟩,h⟩:=g12 (thenP 98) (prgB_small (by decide) (by decide)) (by decide)
 have:=hex.2 _ lsB
 rw[show (thenP 98).ins.length+1=6 from rfl,srB]at this
 simp only[Prod.mk.injEq]at this
 obtain⟨rfl,rfl⟩:=this
 exact h
theorem c12a:∀ H,call Tryz.prog pol1 12 [prgAV (thenP 97)] H=some (.tup [.nilp,I 10],H):=by
 obtain⟨r,⟨xs,fk,hex,rfl⟩,h⟩:=g12 (thenP 97) (prgB_small (by decide) (by decide)) (by decide)
 obtain⟨ys,e1,e2⟩:=srA
 have:=hex.2 _ lsA
 rw[show (thenP 97).ins.length+1=6 from rfl,e1]at this
 simp only[Prod.mk.injEq]at this
 obtain⟨rfl,rfl⟩:=this
 exact h
theorem c14a:∀ H,call Tryz.prog pol1 14 [prgAV (thenP 97)] H=some (.tup [.sl false [],.bool true,I 0],H):=by
 obtain⟨r,⟨xs,fk,hex,rfl⟩,h⟩:=g14 (thenP 97) (prgB_small (by decide) (by decide)) (by decide)
 obtain⟨ys,e1,e2⟩:=srA
 have:=hex.2 _ lsA
 rw[show (thenP 97).ins.length+1=6 from rfl,e1]at this
 simp only[Prod.mk.injEq]at this
 obtain⟨rfl,rfl⟩:=this
 rw[e2]at h
 exact h
theorem c14p:∀ H,call Tryz.prog pol1 14 [prgAV bothP] H=some (.tup [.sl false [I 98],.bool true,I 0],H):=by
 obtain⟨r,⟨xs,fk,hex,rfl⟩,h⟩:=g14 bothP (prgB_small (by decide) (by decide)) (by decide)
 obtain⟨ys,e1,e2⟩:=srP
 have:=hex.2 _ lsP
 rw[show bothP.ins.length+1=8 from rfl,e1]at this
 simp only[Prod.mk.injEq]at this
 obtain⟨rfl,rfl⟩:=this
 rw[e2]at h
 exact h
end
section
attribute [local go_sem] W_block tySzE List.head?_drop Nat.mul_one sameAt_zero sameAt_two sameAt_three sameAt_four sameAt_five room_ok
open Go.Proofs Go.RowKit Go.IntWalk
set_option maxRecDepth 100000
set_option maxHeartbeats 16000000
abbrev cB:AV:=.pt [.sl false ((thenP 98).ins.map insAV),I 0,I 3]
abbrev args44 (x:Nat×Nat×List Int):List AV:=[cB,NV x.1,.sl false (x.2.2.map I),NV x.2.1]
def res44 (x:Nat×Nat×List Int):AV:=match runS (thenP 98).ins enC (yiC (thenP 98).ins x.2.2 x.2.1) 20 [(x.1,m0S)] CS0 with
 | some sF=>.tup [I sF.nx,.agg (sF.way.map AV.bool),.bool sF.dn,.agg (sF.la.map AV.bool)]
 | none=>.top
def tab44:List (Nat×Nat×List Int):=[(0,0,[97,97,98,98]),(2,1,[97,97,98,98]),(2,2,[97,97,98,98]),(4,3,[97,97,98,98]),(0,0,[97,97]),(2,1,[97,97]),(2,2,[97,97])]
def ext44 (args:List AV) (H:List MB):Option (AV×List MB):=match tab44.find? (fun x=>AV.beqL args (args44 x)) with
 | some x=>some (res44 x,H)
 | none=>none
theorem leadsB:LeadsR (thenP 98).ins:=(okP_of (g:=thenP 98) (by decide)).leads
theorem ext44_sound {args:List AV} {H H':List MB} {r:AV} (h:ext44 args H=some (r,H')):CallSound Tryz.prog 44 args H r H':=by
 unfold ext44 at h
 split at h
 ·rename_i x hx
  simp only[Option.some.injEq,Prod.mk.injEq]at h
  obtain⟨rfl,rfl⟩:=h
  obtain rfl:=AV.eq_of_beqL _ _ (by simpa using List.find?_some hx)
  have hm:=List.mem_of_find?_eq_some hx
  have hset:∀ i∈(thenP 98).ins,i.set.length≤1000000:=(prgB_small (g:=thenP 98) (by decide) (by decide)).2
  have key:∀ x∈tab44,(∃ sF,runS (thenP 98).ins enC (yiC (thenP 98).ins x.2.2 x.2.1) 20 [(x.1,m0S)] CS0=some sF)∧x.1 < 5∧x.2.2.length≤10:=by
   intro x hx
   simp only[tab44,List.mem_cons,List.not_mem_nil,or_false]at hx
   rcases hx with rfl|rfl|rfl|rfl|rfl|rfl|rfl<;>exact⟨⟨_,rfl⟩,by decide,by decide⟩
  obtain⟨⟨sF,hs⟩,h1,h2⟩:=key x hm
  have:=f44 (thenP 98).ins 0 3 x.2.2 x.2.1 x.1 (by decide) (by omega) hset leadsB h1 20 (by omega) sF hs H
  have hr:res44 x=.tup [I sF.nx,.agg (sF.way.map AV.bool),.bool sF.dn,.agg (sF.la.map AV.bool)]:=by unfold res44;rw[hs]
  rw[hr]
  exact ok1.1 _ _ _ _ _ (by decide) this
 ·cases h
noncomputable def polU:Pol:={ polV with pure:=fun f=>!(44::12::14::notPure).contains f,ext:=fun f=>if f=44 then some ext44 else polV.ext f }
theorem u42b (H:List MB):call Tryz.prog polU 42 [I 98] H=some (prgAV (thenP 98),H):=call_of_evF (n:=60) 20 42 _ _ _ (by kernel_rfl)
theorem u42a (H:List MB):call Tryz.prog polU 42 [I 97] H=some (prgAV (thenP 97),H):=call_of_evF (n:=60) 20 42 _ _ _ (by kernel_rfl)
theorem u21b (H:List MB):call Tryz.prog polU 21 [cB,.sl false [I 97,I 97,I 98,I 98],I 0] H=some (.tup [.agg [I 0,I 3,.sl false []],.bool true,I 0],H):=call_of_evF (n:=60) 20 21 _ _ _ (by kernel_rfl)
theorem u21n (H:List MB):call Tryz.prog polU 21 [cB,.sl false [I 97,I 97],I 0] H=some (.tup [.agg [I 0,I 0,.sl false []],.bool false,I 0],H):=call_of_evF (n:=60) 20 21 _ _ _ (by kernel_rfl)
theorem u17 (H:List MB):call Tryz.prog polU 17 [cB] H=some (I 3,H):=call_of_evF (n:=60) 20 17 _ _ _ (by kernel_rfl)
theorem u18 (H:List MB):call Tryz.prog polU 18 [.sl false [I 98],.sl false [I 98]] H=some (.bool true,H):=call_of_evF (n:=60) 20 18 _ _ _ (by kernel_rfl)
end
section
attribute [local go_sem] W_block tySzE List.head?_drop Nat.mul_one sameAt_zero sameAt_two sameAt_three sameAt_four sameAt_five room_ok
open Go.Proofs Go.RowKit Go.IntWalk
set_option maxRecDepth 100000
set_option maxHeartbeats 16000000
theorem polU_dead:polU.dead=pol1.dead:=rfl
theorem polU_bdead:polU.bdead=pol1.bdead:=rfl
theorem polU_racts:polU.racts=pol1.racts:=rfl
theorem polU_muts:polU.muts 19=[1000090,1000095]:=rfl
theorem polU_alts:polU.alts=pol1.alts:=rfl
theorem u12b (H:List MB):call Tryz.prog polU 12 [prgAV (thenP 98)] H=some (.tup [cB,I 0],H):=by
 rw[call_eq]
 unfold evStep
 rw[if_neg (show ¬ polU.pure 12=true by decide),if_neg (by decide)]
 exact c12b H
theorem u12a (H:List MB):call Tryz.prog polU 12 [prgAV (thenP 97)] H=some (.tup [.nilp,I 10],H):=by
 rw[call_eq]
 unfold evStep
 rw[if_neg (show ¬ polU.pure 12=true by decide),if_neg (by decide)]
 exact c12a H
theorem u14a (H:List MB):call Tryz.prog polU 14 [prgAV (thenP 97)] H=some (.tup [.sl false [],.bool true,I 0],H):=by
 rw[call_eq]
 unfold evStep
 rw[if_neg (show ¬ polU.pure 14=true by decide),if_neg (by decide)]
 exact c14a H
theorem u14p (H:List MB):call Tryz.prog polU 14 [prgAV bothP] H=some (.tup [.sl false [I 98],.bool true,I 0],H):=by
 rw[call_eq]
 unfold evStep
 rw[if_neg (show ¬ polU.pure 14=true by decide),if_neg (by decide)]
 exact c14p H
abbrev reSl (c:Int):List AV:=[I 1,.sl false [spanAV (c,c)],.sl false [],I 0,I 0,I 0,I 0,.bool false]
abbrev reB:List AV:=[I 3,.sl false [],.sl false [.agg (reSl 97),.agg [I 2,.sl false [],.sl false [.agg (reSl 97),.agg (reSl 98)],I 0,I 0,I 0,I 0,.bool false]],I 0,I 0,I 0,I 0,.bool false]
abbrev reP:List AV:=[I 2,.sl false [],.sl false [.agg (reSl 98),.agg reB],I 0,I 0,I 0,I 0,.bool false]
theorem u43a (H:List MB):call Tryz.prog polU 43 [I 97] H=some (.agg (reSl 97),H):=call_of_evF (n:=60) 20 43 _ _ _ (by kernel_rfl)
theorem u43b (H:List MB):call Tryz.prog polU 43 [I 98] H=some (.agg (reSl 98),H):=call_of_evF (n:=60) 20 43 _ _ _ (by kernel_rfl)
theorem u25 (H:List MB):call Tryz.prog polU 25 [.agg (reP++[I 0,.bool false])] H=some (.tup [prgAV bothP,I 0],H):=call_of_evF (n:=60) 20 25 _ _ _ (by kernel_rfl)
theorem u21bt (H:List MB):call Tryz.prog polU 21 [cB,.sl true [I 97,I 97,I 98,I 98],I 0] H=some (.tup [.agg [I 0,I 3,.sl false []],.bool true,I 0],H):=by
 rw[call_frzP (l:=[cB,.sl false [I 97,I 97,I 98,I 98],I 0]) (H1:=H) rfl rfl rfl];exact u21b H
theorem u21nt (H:List MB):call Tryz.prog polU 21 [cB,.sl true [I 97,I 97],I 0] H=some (.tup [.agg [I 0,I 0,.sl false []],.bool false,I 0],H):=by
 rw[call_frzP (l:=[cB,.sl false [I 97,I 97],I 0]) (H1:=H) rfl rfl rfl];exact u21n H
theorem u18t (H:List MB):call Tryz.prog polU 18 [.sl false [I 98],.sl true [I 98]] H=some (.bool true,H):=by
 rw[call_frzP (l:=[.sl false [I 98],.sl false [I 98]]) (H1:=H) rfl rfl rfl];exact u18 H
abbrev reT:AV:=.agg [.int .i64 2,.sl true [],.sl true [.agg (reSl 98),.agg [.int .i64 3,.sl true [],.sl true [.agg (reSl 97),.agg [.int .i64 2,.sl true [],.sl true [.agg (reSl 97),.agg (reSl 98)],.int .i64 0,.int .i64 0,.int .i64 0,.int .i64 0,.bool false]],.int .i64 0,.int .i64 0,.int .i64 0,.int .i64 0,.bool false]],.int .i64 0,.int .i64 0,.int .i64 0,.int .i64 0,.bool false,.int .i64 0,.bool false]
theorem u25t (H:List MB):call Tryz.prog polU 25 [reT] H=some (.tup [prgAV bothP,I 0],H):=by
 rw[call_frzP (l:=[.agg (reP++[I 0,.bool false])]) (H1:=H) rfl rfl rfl];exact u25 H
theorem u19 (H:List MB):call Tryz.prog polU 19 [] H=some (.bool true,H):=by
 have e1:=u12b
 have e2:=u12a
 have e3:=u14a
 have e4:=u21bt
 have e5:=u21nt
 have e6:=u17
 have e7:=u43a
 have e8:=u43b
 have e9:=u14p
 have e10:=u18t
 have e11:=u42b
 have e12:=u42a
 have hnp:ofK (Value.pointer none)=.nilp:=rfl
 have a43:=fun H=>evAlone_of (cf:=call Tryz.prog polU) u43b rfl rfl H
 have a25:=fun H=>evAlone_of (cf:=call Tryz.prog polU) u25t rfl rfl H
 refine call_run Tryz.func19 rfl rfl rfl rfl rfl rfl (fun _=>rfl) (by simp[AV.plain,AV.plainL,plain_ints,plain_span,plain_ins,plain_prg]) (by simp[AV.plain,AV.plainL,plain_ints,plain_span,plain_ins,plain_prg]) ?_ H
 simp +contextual (disch:=omega) only[Tryz.f19,dd19,go_sem,simprocAttr,mu19,↓wrap_up,↓wrap_down,↓wrap_pred,↓wrap_sub_nat,polU_dead,polU_bdead,polU_racts,polU_muts,polU_alts,e11,e12,e1,e2,e3,hnp,e4,e5,e6,e7,e8,a43,a25,e9,e10]
 repeat' (first|intro _|apply And.intro|(unfold dOk;kernel_rfl)|exact St.beq_refl _|(show altO _ _ _ _=true;kernel_rfl)|(show (_ || _)=true;kernel_rfl)|(show (_ && _)=true;kernel_rfl))
 exact⟨_,rfl⟩
theorem extU:ExtOk Tryz.prog polU:=by
 intro f g hg args H r H' h
 by_cases e:f=44
 ·subst e
  have:polU.ext 44=some ext44:=rfl
  rw[this]at hg
  obtain rfl:=Option.some.inj hg
  exact ext44_sound h
 by_cases e1:f=12
 ·subst e1
  have:polU.ext 12=some (call Tryz.prog pol1 12):=rfl
  rw[this]at hg
  obtain rfl:=Option.some.inj hg
  exact ok1.1 12 args H r H' (by decide) h
 by_cases e2:f=14
 ·subst e2
  have:polU.ext 14=some (call Tryz.prog pol1 14):=rfl
  rw[this]at hg
  obtain rfl:=Option.some.inj hg
  exact ok1.1 14 args H r H' (by decide) h
 by_cases e3:f=54
 ·subst e3
  have:polU.ext 54=none:=rfl
  rw[this]at hg
  cases hg
 have:polU.ext f=pol0.ext f:=by
  show (if f=44 then some ext44 else if f=54 then none else if f=12 then some (call Tryz.prog pol1 12) else if f=14 then some (call Tryz.prog pol1 14) else pol0.ext f)=_
  rw[if_neg e,if_neg e3,if_neg e1,if_neg e2]
 rw[this]at hg
 exact ext0 f g hg args H r H' h
theorem okU:CfOk Tryz.prog (call Tryz.prog polU):=call_ok extU follows1
noncomputable def polT:Pol:={ pol1 with pure:=fun f=>!(9::10::11::12::13::14::15::16::17::18::19::notPure).contains f,ext:=fun f=>if f=19 then some (call Tryz.prog polU 19) else if 9≤f∧f≤18 then some (call Tryz.prog pol1 f) else pol1.ext f }
theorem extT:ExtOk Tryz.prog polT:=by
 intro f g hg args H r H' h
 by_cases e:f=19
 ·subst e
  have:polT.ext 19=some (call Tryz.prog polU 19):=rfl
  rw[this]at hg
  obtain rfl:=Option.some.inj hg
  exact okU.1 19 args H r H' (by decide) h
 by_cases e1:9≤f∧f≤18
 ·have:polT.ext f=some (call Tryz.prog pol1 f):=by
   show (if f=19 then some (call Tryz.prog polU 19) else if 9≤f∧f≤18 then some (call Tryz.prog pol1 f) else pol1.ext f)=_
   rw[if_neg e,if_pos e1]
  rw[this]at hg
  obtain rfl:=Option.some.inj hg
  exact ok1.1 f args H r H' (by unfold yldF;omega) h
 have:polT.ext f=pol1.ext f:=by
  show (if f=19 then some (call Tryz.prog polU 19) else if 9≤f∧f≤18 then some (call Tryz.prog pol1 f) else pol1.ext f)=_
  rw[if_neg e,if_neg e1]
 rw[this]at hg
 exact ext1 f g hg args H r H' h
theorem okT:CfOk Tryz.prog (call Tryz.prog polT):=call_ok extT follows1
theorem t19 (H:List MB):call Tryz.prog polT 19 [] H=some (.bool true,H):=by
 rw[call_eq]
 unfold evStep
 rw[if_neg (show ¬ polT.pure 19=true by decide),if_neg (by decide)]
 exact u19 H
theorem liftT (f:Nat) (hf:9≤f∧f≤18) (hp:polT.pure f=false) {args:List AV} {r:AV} (h:∀ H,call Tryz.prog pol1 f args H=some (r,H)) (H:List MB):call Tryz.prog polT f args H=some (r,H):=by
 have he:polT.ext f=some (call Tryz.prog pol1 f):=by
  show (if f=19 then some (call Tryz.prog polU 19) else if 9≤f∧f≤18 then some (call Tryz.prog pol1 f) else pol1.ext f)=_
  rw[if_neg (by omega),if_pos hf]
 rw[call_eq]
 unfold evStep evBody
 rw[if_neg (by rw[hp];decide),if_neg (by unfold yldF;omega)]
 simp only[he]
 exact h H
end
end Go.Ev
namespace Go.Ev
open Go.Proofs Go.RowKit Go.IntWalk
set_option maxRecDepth 100000
set_option maxHeartbeats 4000000
def aroundI (n m:Int):Int:=(if n < 0 then - (n+1) else n) % m
def In64 (n:Int):Prop:=-9223372036854775808≤n∧n≤9223372036854775807
theorem around_lt {n m:Int} (h:0 < m):0≤aroundI n m∧aroundI n m < m:=by
 unfold aroundI
 have:0≤(if n < 0 then - (n+1) else n):=by split<;>omega
 exact⟨Int.emod_nonneg _ (by omega),Int.emod_lt_of_pos _ h⟩
theorem f12 (n m:Int) (hn:In64 n) (hm:m≠0) (H:List MB):call Tryz.prog pol1 20 [.int .i64 n,.int .i64 m] H=some (I (aroundI n m),H):=by
 obtain⟨h1,h2⟩:=hn
 refine call_run Tryz.func20 rfl rfl rfl rfl rfl rfl (fun _=>rfl) (by simp[AV.plain,AV.plainL,plain_ints,plain_span,plain_ins,plain_prg]) (by simp[AV.plain,AV.plainL,plain_ints,plain_span,plain_ins,plain_prg]) ?_ H
 simp +contextual (disch:=omega) only[Tryz.f20,dd20,ty3,ty4,↓reduceIte,eq_self,bindW_some,bindW_map,bindW_ite,bindW_iteN,W_seq,W_region,W_draw,W_cond,W_condK,W_ret,W_skip,W_exit,W_scope,W_label,W_block,blockK_norm,blockK_ret,blockK_exit,WO_nil,WO_cons,WO_guard,WD_nil,WD_cons,WD_guard,guardV,guardW_boolT,guardW_boolF,guardW_tup,fpL_some,fpL_none,footprint,footprint0,fineF,thenK_norm,thenK_ret,thenK_exit,put_some,put_none,ev_tmp,ev_con,ev_func,ofK_int,ofK_bool,ofK_str,ofK_nil,ofK_agg,ofC_int,ofC_bool,ofC_str,ofC_nil,ofC_nilp,one_int,one_bool,one_str,one_nil,one_nilp,evOp,evBuiltin,evCall,cfn,yldF,evLen,evAppend,getElem_16,getElem_4,List.length_cons,List.length_nil,List.reduceReplicate,Nat.reduceAdd,Nat.reduceSub,List.cons_append,List.nil_append,List.append_nil,if_false,if_true,Bool.false_eq_true,Bool.true_eq_false,reduceCtorEq,Option.map_some,Option.map_none,List.map_cons,List.map_nil,evBinOp,evBin,evUn,asB_bool,splitB_decide,splitB_true,splitB_false,splitB_beq,splitB_bne,splitB_not,endK_ret,endK_norm,List.getElem?_cons_zero,List.getElem?_cons_succ,evResults,evResult,packRes,retK_norm,retK_ret,cellsAt,mkVal,evFieldAddr,evField,evIndexAddr,evPart,evStore,evBuild,evBuildSlice,fillC,fillE,evSlice,evMakeSlice,evConvert,getRow,AV.cells,List.head?_cons,List.drop_zero,List.drop_succ_cons,List.take_zero,List.take_succ_cons,List.drop_nil,List.take_nil,List.all_cons,List.all_nil,AV.ok,Bool.and_self,Bool.and_true,Bool.true_and,and_self,and_true,true_and,Nat.reduceLeDiff,Nat.reduceMul,Nat.reduceLT,Nat.reduceEqDiff,Nat.zero_add,Nat.add_zero,setCells,splice,pairsOk,pairsX,altW_none,altW_some,cfg_al,WI_nil,WI_cons,FP.apart,heapEq_refl,sameAt_refl,Bool.or_true,Bool.true_or,Bool.or_false,srcElems,elemsOf,mutDst,indDst,thwDst,evLenH,evMapUpd,evLookup,getMp,keyOk,resOk,strOf,roundK_norm,roundK_exit,roundK_ret,List.length_map,List.getElem?_map,Int.toNat_natCast,Int.reduceBNe,Int.reduceBEq,decide_true,decide_false,Bool.not_true,Bool.not_false,List.set,set_0,set_1,set_2,set_3,set_4,look_hit,look,lookD_hit,lookD_cons,lookD_nil,ins_hit,ins,upd_hit,upd,rem1_hit,rem1,dropT,dropSt_eq,initT,cfg_dd,cfg_bd,cfg_ra,actL_nil,actL_cons,act1,updT_hit,updT,frzB,mu20,List.contains_nil,List.contains_cons,Nat.reduceBEq,Bool.or_self,dlt_t,dlt_f,dle_t,dle_f,dgt_t,dgt_f,dge_t,dge_f,beq_t,beq_f,bne_t,bne_f,lt_T,le_T,nle_T,nle_F,↓wrap_up,↓wrap_down,↓wrap_pred,↓wrap_sub_nat,i64_in,i64_quo,rem_in,Int.reduceToNat]
 unfold aroundI
 refine⟨fun h=>⟨hm,fzEq rfl ?_⟩,fun h=>⟨hm,fzEq rfl ?_⟩⟩
 ·rw[if_pos h];try (congr 2;omega)
 ·rw[if_neg h]
def pickI (l:List Int) (i m:Int):Int:=if i < 0 then 0 else match l[i.toNat]? with
 | some x=>aroundI x m
 | none=>0
theorem pick_lt {l:List Int} {i m:Int} (h:0 < m):0≤pickI l i m∧pickI l i m < m:=by
 unfold pickI
 split
 ·omega
 ·split
  ·exact around_lt h
  ·omega
theorem f57 (l:List Int) (i m:Int) (hl:∀ x∈l,In64 x) (hm:m≠0) (H:List MB):call Tryz.prog pol1 34 [.sl false (l.map I),.int .i64 i,.int .i64 m] H=some (I (pickI l i m),H):=by
 refine call_run Tryz.func34 rfl rfl rfl rfl rfl rfl (fun _=>rfl) (by simp[AV.plain,AV.plainL,plain_ints,plain_span,plain_ins,plain_prg]) (by simp[AV.plain,AV.plainL,plain_ints,plain_span,plain_ins,plain_prg]) ?_ H
 by_cases h0:i < 0
 ·have e:pickI l i m=0:=by simp[pickI,h0]
  rw[e]
  simp +contextual (disch:=omega) only[Tryz.f34,dd34,ty0,ty3,ty4,ty22,↓reduceIte,eq_self,bindW_some,bindW_map,bindW_ite,bindW_iteN,W_seq,W_region,W_draw,W_cond,W_condK,W_ret,W_skip,W_exit,W_scope,W_label,W_block,blockK_norm,blockK_ret,blockK_exit,WO_nil,WO_cons,WO_guard,WD_nil,WD_cons,WD_guard,guardV,guardW_boolT,guardW_boolF,guardW_tup,fpL_some,fpL_none,footprint,footprint0,fineF,thenK_norm,thenK_ret,thenK_exit,put_some,put_none,ev_tmp,ev_con,ev_func,ofK_int,ofK_bool,ofK_str,ofK_nil,ofK_agg,ofC_int,ofC_bool,ofC_str,ofC_nil,ofC_nilp,one_int,one_bool,one_str,one_nil,one_nilp,evOp,evBuiltin,evCall,cfn,yldF,evLen,evAppend,getElem_16,getElem_4,List.length_cons,List.length_nil,List.reduceReplicate,Nat.reduceAdd,Nat.reduceSub,List.cons_append,List.nil_append,List.append_nil,if_false,if_true,Bool.false_eq_true,Bool.true_eq_false,reduceCtorEq,Option.map_some,Option.map_none,List.map_cons,List.map_nil,evBinOp,evBin,evUn,asB_bool,splitB_decide,splitB_true,splitB_false,splitB_beq,splitB_bne,splitB_not,endK_ret,endK_norm,List.getElem?_cons_zero,List.getElem?_cons_succ,evResults,evResult,packRes,retK_norm,retK_ret,cellsAt,mkVal,evFieldAddr,evField,evIndexAddr,evPart,evStore,evBuild,evBuildSlice,fillC,fillE,evSlice,evMakeSlice,evConvert,getRow,AV.cells,List.head?_cons,List.drop_zero,List.drop_succ_cons,List.take_zero,List.take_succ_cons,List.drop_nil,List.take_nil,List.all_cons,List.all_nil,AV.ok,Bool.and_self,Bool.and_true,Bool.true_and,and_self,and_true,true_and,Nat.reduceLeDiff,Nat.reduceMul,Nat.reduceLT,Nat.reduceEqDiff,Nat.zero_add,Nat.add_zero,setCells,splice,pairsOk,pairsX,altW_none,altW_some,cfg_al,WI_nil,WI_cons,FP.apart,heapEq_refl,sameAt_refl,Bool.or_true,Bool.true_or,Bool.or_false,srcElems,elemsOf,mutDst,indDst,thwDst,evLenH,evMapUpd,evLookup,getMp,keyOk,resOk,strOf,roundK_norm,roundK_exit,roundK_ret,List.length_map,List.getElem?_map,Int.toNat_natCast,Int.reduceBNe,Int.reduceBEq,decide_true,decide_false,Bool.not_true,Bool.not_false,List.set,set_0,set_1,set_2,set_3,set_4,look_hit,look,lookD_hit,lookD_cons,lookD_nil,ins_hit,ins,upd_hit,upd,rem1_hit,rem1,dropT,dropSt_eq,initT,cfg_dd,cfg_bd,cfg_ra,actL_nil,actL_cons,act1,updT_hit,updT,frzB,mu34,List.contains_nil,List.contains_cons,Nat.reduceBEq,Bool.or_self,dlt_t,dlt_f,dle_t,dle_f,dgt_t,dgt_f,dge_t,dge_f,beq_t,beq_f,bne_t,bne_f,lt_T,le_T,nle_T,nle_F,↓wrap_up,↓wrap_down,↓wrap_pred,↓wrap_sub_nat,i64_in,i64_quo,rem_in,Int.reduceToNat]
  exact fzEq rfl rfl
 ·obtain⟨k,rfl⟩:∃ k:Nat,i=k:=⟨i.toNat,by omega⟩
  by_cases h1:k < l.length
  ·obtain⟨p,hp⟩:∃ p,l[k]?=some p:=⟨_,List.getElem?_eq_getElem h1⟩
   have e:pickI l k m=aroundI p m:=by simp[pickI,h0,hp]
   rw[e]
   have hf:=f12 p m (hl p (List.mem_of_getElem? hp)) hm
   simp +contextual (disch:=omega) only[Tryz.f34,dd34,ty0,ty3,ty4,ty22,↓reduceIte,eq_self,bindW_some,bindW_map,bindW_ite,bindW_iteN,W_seq,W_region,W_draw,W_cond,W_condK,W_ret,W_skip,W_exit,W_scope,W_label,W_block,blockK_norm,blockK_ret,blockK_exit,WO_nil,WO_cons,WO_guard,WD_nil,WD_cons,WD_guard,guardV,guardW_boolT,guardW_boolF,guardW_tup,fpL_some,fpL_none,footprint,footprint0,fineF,thenK_norm,thenK_ret,thenK_exit,put_some,put_none,ev_tmp,ev_con,ev_func,ofK_int,ofK_bool,ofK_str,ofK_nil,ofK_agg,ofC_int,ofC_bool,ofC_str,ofC_nil,ofC_nilp,one_int,one_bool,one_str,one_nil,one_nilp,evOp,evBuiltin,evCall,cfn,yldF,evLen,evAppend,getElem_16,getElem_4,List.length_cons,List.length_nil,List.reduceReplicate,Nat.reduceAdd,Nat.reduceSub,List.cons_append,List.nil_append,List.append_nil,if_false,if_true,Bool.false_eq_true,Bool.true_eq_false,reduceCtorEq,Option.map_some,Option.map_none,List.map_cons,List.map_nil,evBinOp,evBin,evUn,asB_bool,splitB_decide,splitB_true,splitB_false,splitB_beq,splitB_bne,splitB_not,endK_ret,endK_norm,List.getElem?_cons_zero,List.getElem?_cons_succ,evResults,evResult,packRes,retK_norm,retK_ret,cellsAt,mkVal,evFieldAddr,evField,evIndexAddr,evPart,evStore,evBuild,evBuildSlice,fillC,fillE,evSlice,evMakeSlice,evConvert,getRow,AV.cells,List.head?_cons,List.drop_zero,List.drop_succ_cons,List.take_zero,List.take_succ_cons,List.drop_nil,List.take_nil,List.all_cons,List.all_nil,AV.ok,Bool.and_self,Bool.and_true,Bool.true_and,and_self,and_true,true_and,Nat.reduceLeDiff,Nat.reduceMul,Nat.reduceLT,Nat.reduceEqDiff,Nat.zero_add,Nat.add_zero,setCells,splice,pairsOk,pairsX,altW_none,altW_some,cfg_al,WI_nil,WI_cons,FP.apart,heapEq_refl,sameAt_refl,Bool.or_true,Bool.true_or,Bool.or_false,srcElems,elemsOf,mutDst,indDst,thwDst,evLenH,evMapUpd,evLookup,getMp,keyOk,resOk,strOf,roundK_norm,roundK_exit,roundK_ret,List.length_map,List.getElem?_map,Int.toNat_natCast,Int.reduceBNe,Int.reduceBEq,decide_true,decide_false,Bool.not_true,Bool.not_false,List.set,set_0,set_1,set_2,set_3,set_4,look_hit,look,lookD_hit,lookD_cons,lookD_nil,ins_hit,ins,upd_hit,upd,rem1_hit,rem1,dropT,dropSt_eq,initT,cfg_dd,cfg_bd,cfg_ra,actL_nil,actL_cons,act1,updT_hit,updT,frzB,mu34,List.contains_nil,List.contains_cons,Nat.reduceBEq,Bool.or_self,dlt_t,dlt_f,dle_t,dle_f,dgt_t,dgt_f,dge_t,dge_f,beq_t,beq_f,bne_t,bne_f,lt_T,le_T,nle_T,nle_F,↓wrap_up,↓wrap_down,↓wrap_pred,↓wrap_sub_nat,i64_in,i64_quo,rem_in,Int.reduceToNat,hp,hf]
   exact fzEq rfl rfl
  ·have e:pickI l k m=0:=by simp[pickI,List.getElem?_eq_none (Nat.le_of_not_lt h1)]
   rw[e]
   simp +contextual (disch:=omega) only[Tryz.f34,dd34,ty0,ty3,ty4,ty22,↓reduceIte,eq_self,bindW_some,bindW_map,bindW_ite,bindW_iteN,W_seq,W_region,W_draw,W_cond,W_condK,W_ret,W_skip,W_exit,W_scope,W_label,W_block,blockK_norm,blockK_ret,blockK_exit,WO_nil,WO_cons,WO_guard,WD_nil,WD_cons,WD_guard,guardV,guardW_boolT,guardW_boolF,guardW_tup,fpL_some,fpL_none,footprint,footprint0,fineF,thenK_norm,thenK_ret,thenK_exit,put_some,put_none,ev_tmp,ev_con,ev_func,ofK_int,ofK_bool,ofK_str,ofK_nil,ofK_agg,ofC_int,ofC_bool,ofC_str,ofC_nil,ofC_nilp,one_int,one_bool,one_str,one_nil,one_nilp,evOp,evBuiltin,evCall,cfn,yldF,evLen,evAppend,getElem_16,getElem_4,List.length_cons,List.length_nil,List.reduceReplicate,Nat.reduceAdd,Nat.reduceSub,List.cons_append,List.nil_append,List.append_nil,if_false,if_true,Bool.false_eq_true,Bool.true_eq_false,reduceCtorEq,Option.map_some,Option.map_none,List.map_cons,List.map_nil,evBinOp,evBin,evUn,asB_bool,splitB_decide,splitB_true,splitB_false,splitB_beq,splitB_bne,splitB_not,endK_ret,endK_norm,List.getElem?_cons_zero,List.getElem?_cons_succ,evResults,evResult,packRes,retK_norm,retK_ret,cellsAt,mkVal,evFieldAddr,evField,evIndexAddr,evPart,evStore,evBuild,evBuildSlice,fillC,fillE,evSlice,evMakeSlice,evConvert,getRow,AV.cells,List.head?_cons,List.drop_zero,List.drop_succ_cons,List.take_zero,List.take_succ_cons,List.drop_nil,List.take_nil,List.all_cons,List.all_nil,AV.ok,Bool.and_self,Bool.and_true,Bool.true_and,and_self,and_true,true_and,Nat.reduceLeDiff,Nat.reduceMul,Nat.reduceLT,Nat.reduceEqDiff,Nat.zero_add,Nat.add_zero,setCells,splice,pairsOk,pairsX,altW_none,altW_some,cfg_al,WI_nil,WI_cons,FP.apart,heapEq_refl,sameAt_refl,Bool.or_true,Bool.true_or,Bool.or_false,srcElems,elemsOf,mutDst,indDst,thwDst,evLenH,evMapUpd,evLookup,getMp,keyOk,resOk,strOf,roundK_norm,roundK_exit,roundK_ret,List.length_map,List.getElem?_map,Int.toNat_natCast,Int.reduceBNe,Int.reduceBEq,decide_true,decide_false,Bool.not_true,Bool.not_false,List.set,set_0,set_1,set_2,set_3,set_4,look_hit,look,lookD_hit,lookD_cons,lookD_nil,ins_hit,ins,upd_hit,upd,rem1_hit,rem1,dropT,dropSt_eq,initT,cfg_dd,cfg_bd,cfg_ra,actL_nil,actL_cons,act1,updT_hit,updT,frzB,mu34,List.contains_nil,List.contains_cons,Nat.reduceBEq,Bool.or_self,dlt_t,dlt_f,dle_t,dle_f,dgt_t,dgt_f,dge_t,dge_f,beq_t,beq_f,bne_t,bne_f,lt_T,le_T,nle_T,nle_F,↓wrap_up,↓wrap_down,↓wrap_pred,↓wrap_sub_nat,i64_in,i64_quo,rem_in,Int.reduceToNat]
   exact fzEq rfl rfl
end Go.Ev
namespace Go.Ev
attribute [local go_sem] evAppend evBuild splice
section
attribute [local go_sem] W_block
open Go.Proofs Go.RowKit Go.IntWalk
set_option maxRecDepth 100000
set_option maxHeartbeats 4000000
def T24 (caps:Int) (runes:Bool) (g:AV):List Ins→St
 | []=>(⟨40,[(4,I 0),(3,.rf 2 1 0 0),(2,.rf 1 1 0 0),(1,.rf 0 1 0 0)],[.row 3 [g] 0,.row 3 [.agg [.sl true [],I 0,.bool false]] 0,.row 3 [.agg [.sl true [],I caps,.bool runes]] 0]⟩:St)
 | x::xs=>(⟨40,[(4,I ((xs.length+1:Nat):Int)),(3,.rf 2 1 0 0),(2,.rf 1 1 0 0),(1,.rf 0 1 0 0)],[.row 3 [g] 0,.row 3 [.agg [.sl true [],I 0,.bool false]] 0,.row 3 [.agg [.ms 4 5 (xs.length+1) 0 (xs.length+1),I caps,.bool runes]] 0,.row 5 [insAV x] 0,.row 5 (insAV x::xs.map insAV) 0]⟩:St)
theorem f24 (g:Prg) (hl:g.ins.length≤1000000) (H:List MB):call Tryz.prog pol1 13 [prgAV g] H=some (prgAV g,H):=by
 refine call_run Tryz.func13 rfl rfl rfl rfl rfl rfl (fun _=>rfl) (by simp[AV.plain,AV.plainL,plain_ints,plain_span,plain_ins,plain_prg]) (by simp[AV.plain,AV.plainL,plain_ints,plain_span,plain_ins,plain_prg]) ?_ H
 simp +contextual (disch:=omega) only[Tryz.f13,dd13,go_sem,simprocAttr,mu13,↓wrap_up,↓wrap_down,↓wrap_pred,↓wrap_sub_nat]
 refine W_count (M:=(mskOf (pol1.mask 13) (pol1.gc 13) (pol1.acts 13) 0 3)) rfl g.ins.length (fun i=>T24 g.caps g.runes (prgAV g) (g.ins.take i)) (fun i=>True) ?_ ?_ trivial _ (by first|rfl|(refine prep_cut rfl (by rfl) (by rfl) (by rfl) ?_ ?_<;>simp[AV.underL,AV.under,MB.under,underL_plain,under_plain,plain_ints,plain_span,plain_ins,plain_prg,-List.map_take]))
 ·intro i hi _
  obtain⟨p,hp⟩:∃ p,g.ins[i]?=some p:=⟨_,List.getElem?_eq_getElem hi⟩
  have hlen:(g.ins.take i).length=i:=by simp;omega
  rw[List.take_add_one,hp]
  generalize g.ins.take i=xs at *
  cases xs with
  | nil=>
    simp only[List.length_nil]at hlen
    subst hlen
    simp only[T24]
    simp +contextual (disch:=omega) only[Tryz.f13,dd13,go_sem,simprocAttr,mu13,↓wrap_up,↓wrap_down,↓wrap_pred,↓wrap_sub_nat,hp]
    exact⟨by simp[roomFor],(by first|rfl|(refine prep_cut rfl (by rfl) (by rfl) (by rfl) ?_ ?_<;>simp[AV.underL,AV.under,MB.under,underL_plain,under_plain,plain_ints,plain_span,plain_ins,plain_prg,-List.map_take]))⟩
  | cons x xs=>
    simp only[List.length_cons]at hlen
    subst hlen
    simp only[T24]
    simp +contextual (disch:=omega) only[Tryz.f13,dd13,go_sem,simprocAttr,mu13,↓wrap_up,↓wrap_down,↓wrap_pred,↓wrap_sub_nat,hp]
    refine⟨by simp[roomFor];omega,?_⟩
    refine prep_cut (n:=5) rfl (by rfl) rfl ?_ ?_ ?_
    ·simp[List.take_of_length_le]
    ·simp[AV.underL,AV.under]
    ·simp[AV.underL,AV.under,MB.under,underL_plain,under_plain,plain_span,plain_ins,plain_prg,underL_append]
 ·intro _
  rw[List.take_length]
  rcases g with ⟨ins,caps,runes⟩
  cases ins with
  | nil=>
    simp only[T24]
    simp +contextual (disch:=omega) only[Tryz.f13,dd13,go_sem,simprocAttr,mu13,↓wrap_up,↓wrap_down,↓wrap_pred,↓wrap_sub_nat]
    exact⟨_,rfl⟩
  | cons x xs=>
    simp only[T24]
    simp +contextual (disch:=omega) only[Tryz.f13,dd13,go_sem,simprocAttr,mu13,↓wrap_up,↓wrap_down,↓wrap_pred,↓wrap_sub_nat]
    simp only[fz,fzA_agg,fzL]
    rw[fzA_ms (n:=5) (els:=insAV x::xs.map insAV) (k:=5) (z:=0) rfl (by simp) (by simp)
     (by rw[List.drop_zero,List.take_of_length_le (by simp)];exact fzL_plain _ _ _ (plain_ins (x::xs)))]
    exact⟨_,rfl⟩
end
section
open Go.Proofs Go.RowKit Go.IntWalk
set_option maxRecDepth 100000
set_option maxHeartbeats 4000000
abbrev insAVt (i:Ins):AV:=.agg [I i.op,I i.x,I i.y,I i.n,.sl true (i.set.map spanAV)]
def T21 (l:List Int) (n caps:Int) (runes:Bool):List Ins→St
 | []=>(⟨119,[(5,I ((0:Nat):Int)),(4,.rf 1 1 0 0),(3,I n),(2,.rf 0 1 0 0),(0,.sl false (l.map I))],[.row 3 [.agg [.sl true [],I 0,.bool false]] 0,.row 3 [.agg [.sl true [],I caps,.bool runes]] 0]⟩:St)
 | x::xs=>(⟨119,[(5,I ((xs.length+1:Nat):Int)),(4,.rf 1 1 0 0),(3,I n),(2,.rf 0 1 0 0),(0,.sl false (l.map I))],[.row 3 [.agg [.sl true [],I 0,.bool false]] 0,.row 3 [.agg [.ms 3 5 (xs.length+1) 0 (xs.length+1),I caps,.bool runes]] 0,.row 5 [insAVt x] 0,.row 5 (insAVt x::xs.map insAVt) 0]⟩:St)
structure SomeOk (g:Prg):Prop where
 len:1≤g.ins.length∧g.ins.length≤12
 caps:0≤g.caps∧g.caps≤2
 ok:∀ i∈g.ins,okIns g.ins.length g.caps g.runes i=true
 last:lastGood g=true
 sets:∀ i∈g.ins,i.set.length≤1
theorem underL_insT (n:Nat) (l:List Ins):AV.underL n (l.map insAVt)=true:=by
 induction l with
 | nil=>rfl
 | cons a l ih=>simp[AV.underL,AV.under,underL_plain,plain_span,ih]
theorem fzT_one (j:List AV→List MB→Option (List AV×List MB)) (i:Ins) (H:List MB):fzA j (insAVt i) H=some (insAV i,H):=by
 simp only[fzA_agg,fzL,fzA_int,fzA_sl,fzL_plain _ _ _ (plain_span i.set)]
theorem fz_allT {id tot:Nat} {ins:List Ins} {caps:Int} {runes:Bool} {H:List MB} (hr:getRow H id=some (5,ins.map insAVt,0)) (hn:tot=ins.length) :
  ∃ H',fz (.agg [.ms id 5 tot 0 tot,I caps,.bool runes]) H=some (prgAV ⟨ins,caps,runes⟩,H'):=by
 subst hn
 simp only[fz,fzA_agg,fzL]
 rw[fzA_ms (n:=5) (k:=5) (ys:=ins.map insAV) hr (by simp) (by simp) (by
  rw[List.drop_zero,List.take_of_length_le (by simp)];exact fzL_map (fun i H=>fzT_one _ i H) _ _)]
 exact⟨_,rfl⟩
theorem lastGood_app (xs:List Ins) (x:Ins) (c:Int) (r:Bool) (h:x.op=0∨x.op=2∨x.op=3):lastGood ⟨xs++[x],c,r⟩=true:=by
 simp[lastGood];omega
theorem ok_zero (n:Nat) (c:Int) (r:Bool):okIns n c r ⟨0,0,0,0,[]⟩=true:=by simp[okIns]
theorem next21 {n:Nat} {caps:Int} {runes:Bool} {xs:List Ins} {x:Ins} (h1:xs.length < n) (h2:∀ i∈xs,okIns n caps runes i=true∧i.set.length≤1) (hx:okIns n caps runes x=true∧x.set.length≤1)
  (hl:xs.length+1=n→x.op=0∨x.op=2∨x.op=3) :
  (xs++[x]).length≤n∧(∀ i∈xs++[x],okIns n caps runes i=true∧i.set.length≤1)∧((xs++[x]).length=n→lastGood ⟨xs++[x],caps,runes⟩=true):=
 ⟨by simp;omega,fun i hi=>by
   rcases List.mem_append.1 hi with h|h
   ·exact h2 i h
   ·rw[List.mem_singleton.1 h];exact hx,fun h=>lastGood_app _ _ _ _ (hl (by simpa using h))⟩
theorem f21 (l:List Int) (hl:∀ x∈l,In64 x):∃ r,(∃ g,SomeOk g∧r=prgAV g)∧∀ H,call Tryz.prog pol1 10 [.sl false (l.map I)] H=some (r,H):=by
 obtain⟨n,hn1,hn2,hn3⟩:∃ n:Nat,(n:Int)=1+pickI l 0 12∧1≤n∧n≤12:=by
  have:=pick_lt (l:=l) (i:=0) (m:=12) (by omega)
  exact⟨(1+pickI l 0 12).toNat,by omega,by omega,by omega⟩
 have hw:IntKind.i64.wrap (1+pickI l 0 12)=n:=by rw[i64_in]<;>omega
 have hcaps:=pick_lt (l:=l) (i:=1) (m:=3) (by omega)
 refine call_runA Tryz.func10 rfl rfl rfl rfl rfl rfl (fun _=>rfl) (by simp[AV.plain,AV.plainL,plain_ints,plain_span,plain_ins,plain_prg]) ?_ ?_
 ·rintro _ ⟨g,_,rfl⟩;exact plain_prg g
 have hP:=fun i m h=>f57 l i m hl h
 simp +contextual (disch:=omega) only[Tryz.f10,dd10,go_sem,↓reduceIte,W_block,List.reduceReplicate,Nat.reduceAdd,Nat.reduceSub,reduceCtorEq,Nat.reduceLeDiff,Nat.reduceMul,Nat.reduceLT,Nat.reduceEqDiff,Int.reduceBNe,Int.reduceBEq,Int.reduceEq,Int.reduceLT,Int.reduceLE,Int.reduceGT,Int.reduceGE,mu10,Nat.reduceBEq,↓wrap_up,↓wrap_down,↓wrap_pred,↓wrap_sub_nat,Int.reduceToNat,hP 0 12 (by omega),hP 1 3 (by omega),hP 2 3 (by omega),hw]
 generalize pickI l 1 3=caps at *
 generalize (pickI l 2 3 == 0)=runes at *
 refine W_for (M:=(mskOf (pol1.mask 10) (pol1.gc 10) (pol1.acts 10) 0 4)) rfl (T21 l n caps runes) (fun xs=>xs.length≤n∧(∀ i∈xs,okIns n caps runes i=true∧i.set.length≤1)∧(xs.length=n→lastGood ⟨xs,caps,runes⟩=true)) (fun xs=>n - xs.length) [] ?_ ⟨by simp,by simp,by simp;omega⟩ _ (by first|rfl|(refine prep_cut rfl (by rfl) (by rfl) (by rfl) ?_ ?_<;>simp[AV.underL,AV.under,MB.under,underL_plain,under_plain,plain_ints,plain_span,plain_ins,plain_prg,-List.map_take]))
 rintro xs ⟨h1,h2,h3⟩
 by_cases hlt:xs.length < n
 ·have hk:=pick_lt (l:=l) (i:=3+xs.length) (m:=1048576) (by omega)
  have hPk:=hP (3+xs.length) 1048576 (by omega)
  generalize pickI l (3+xs.length) 1048576=k at *
  have hm3:∀ z:Int,0 < caps→0≤z % (2 * caps)∧z % (2 * caps) < 2 * caps:=fun z h=>⟨Int.emod_nonneg _ (by omega),Int.emod_lt_of_pos _ (by omega)⟩
  have hmod:∀ z:Int,0≤z % n∧z % n < n:=fun z=>⟨Int.emod_nonneg _ (by omega),Int.emod_lt_of_pos _ (by omega)⟩
  have hm1:=fun z=>(hmod z).1
  have hm2:=fun z=>(hmod z).2
  cases xs with
  | nil=>
    simp only[T21]
    simp only[List.length_nil]at hPk hlt
    simp +contextual (disch:=omega) only[Tryz.f10,dd10,go_sem,↓reduceIte,List.reduceReplicate,Nat.reduceAdd,Nat.reduceSub,reduceCtorEq,Nat.reduceLeDiff,Nat.reduceMul,Nat.reduceLT,Nat.reduceEqDiff,Int.reduceBNe,Int.reduceBEq,Int.reduceEq,Int.reduceLT,Int.reduceLE,Int.reduceGT,Int.reduceGE,mu10,Nat.reduceBEq,↓wrap_up,↓wrap_down,↓wrap_pred,↓wrap_sub_nat,Int.reduceToNat,W_block (id:=1),hPk]
    refine W_cut (fun s=>∃ x:Ins,x.set.length≤1∧okIns n caps runes x=true∧s=⟨119,[(7,.rf 2 1 0 0),(5,I ((0:Nat):Int)),(4,.rf 1 1 0 0),(3,I n),(2,.rf 0 1 0 0),(0,.sl false (l.map I))],
     [.row 3 [.agg [.sl true [],I 0,.bool false]] 0,.row 3 [.agg [.sl true [],I caps,.bool runes]] 0,.row 5 [insAVt x] 0]⟩) ?_ ?_
    ·simp +contextual (disch:=omega) only[Tryz.f10,dd10,go_sem,↓reduceIte,W_block,List.reduceReplicate,Nat.reduceAdd,Nat.reduceSub,reduceCtorEq,Nat.reduceLeDiff,Nat.reduceMul,Nat.reduceLT,Nat.reduceEqDiff,Int.reduceBNe,Int.reduceBEq,Int.reduceEq,Int.reduceLT,Int.reduceLE,Int.reduceGT,Int.reduceGE,mu10,Nat.reduceBEq,↓wrap_up,↓wrap_down,↓wrap_pred,↓wrap_sub_nat,Int.reduceToNat,cut_norm]
     repeat' (first|intro _|apply And.intro)
     all_goals first
      | omega
      | (unfold dOk;kernel_rfl)
      | kernel_rfl
      | (refine⟨⟨_,_,_,_,[]⟩,?_,?_,rfl⟩<;>simp[okIns,refSpans,badAt,lastOk,hm1,hm2]<;>done)
      | (refine⟨⟨_,_,_,_,[]⟩,?_,?_,rfl⟩<;>simp[okIns,refSpans,badAt,lastOk,hm1,hm2]<;>omega)
      | (refine⟨⟨_,_,_,_,[]⟩,?_,?_,rfl⟩
         ·simp
         ·have q:=hm3 (k / 8) (by omega)
          simp[okIns,refSpans,badAt,lastOk]
          omega)
      | (refine⟨⟨_,_,_,_,[(97,_)]⟩,?_,?_,rfl⟩
         ·simp
         ·simp[okIns,refSpans,badAt,lastOk]
          (try split)<;>omega)
    ·rintro _ ⟨z,hz1,hz2,rfl⟩
     have hop:=okIns_op hz2
     by_cases h1n:0+1=n
     ·by_cases ha:z.op=1
      ·simp +contextual (disch:=omega) only[Tryz.f10,dd10,go_sem,↓reduceIte,W_block,List.reduceReplicate,Nat.reduceAdd,Nat.reduceSub,reduceCtorEq,Nat.reduceLeDiff,Nat.reduceMul,Nat.reduceLT,Nat.reduceEqDiff,Int.reduceBNe,Int.reduceBEq,Int.reduceEq,Int.reduceLT,Int.reduceLE,Int.reduceGT,Int.reduceGE,mu10,Nat.reduceBEq,↓wrap_up,↓wrap_down,↓wrap_pred,↓wrap_sub_nat,Int.reduceToNat]
       refine⟨by simp[roomFor],[]++[⟨0,0,0,0,[]⟩],next21 (by simpa using hlt) h2 ⟨ok_zero _ _ _,by simp⟩ (fun h=>by simp only[List.length_nil,List.length_cons]at h;first|exact Or.inl rfl|omega),by simp;omega,?_⟩
       exact(by first|rfl|(refine prep_cut rfl (by rfl) (by rfl) (by rfl) ?_ ?_<;>simp[AV.underL,AV.under,MB.under,underL_plain,under_plain,plain_ints,plain_span,plain_ins,plain_prg,-List.map_take,underL_insT]))
      ·by_cases hb:4≤z.op
       ·simp +contextual (disch:=omega) only[Tryz.f10,dd10,go_sem,↓reduceIte,W_block,List.reduceReplicate,Nat.reduceAdd,Nat.reduceSub,reduceCtorEq,Nat.reduceLeDiff,Nat.reduceMul,Nat.reduceLT,Nat.reduceEqDiff,Int.reduceBNe,Int.reduceBEq,Int.reduceEq,Int.reduceLT,Int.reduceLE,Int.reduceGT,Int.reduceGE,mu10,Nat.reduceBEq,↓wrap_up,↓wrap_down,↓wrap_pred,↓wrap_sub_nat,Int.reduceToNat]
        refine⟨by simp[roomFor],[]++[⟨0,0,0,0,[]⟩],next21 (by simpa using hlt) h2 ⟨ok_zero _ _ _,by simp⟩ (fun h=>by simp only[List.length_nil,List.length_cons]at h;first|exact Or.inl rfl|omega),by simp;omega,?_⟩
        exact(by first|rfl|(refine prep_cut rfl (by rfl) (by rfl) (by rfl) ?_ ?_<;>simp[AV.underL,AV.under,MB.under,underL_plain,under_plain,plain_ints,plain_span,plain_ins,plain_prg,-List.map_take,underL_insT]))
       ·simp +contextual (disch:=omega) only[Tryz.f10,dd10,go_sem,↓reduceIte,W_block,List.reduceReplicate,Nat.reduceAdd,Nat.reduceSub,reduceCtorEq,Nat.reduceLeDiff,Nat.reduceMul,Nat.reduceLT,Nat.reduceEqDiff,Int.reduceBNe,Int.reduceBEq,Int.reduceEq,Int.reduceLT,Int.reduceLE,Int.reduceGT,Int.reduceGE,mu10,Nat.reduceBEq,↓wrap_up,↓wrap_down,↓wrap_pred,↓wrap_sub_nat,Int.reduceToNat]
        refine⟨by simp[roomFor],[]++[z],next21 (by simpa using hlt) h2 ⟨hz2,hz1⟩ (fun h=>by simp only[List.length_nil,List.length_cons]at h;first|exact Or.inl rfl|omega),by simp;omega,?_⟩
        exact(by first|rfl|(refine prep_cut rfl (by rfl) (by rfl) (by rfl) ?_ ?_<;>simp[AV.underL,AV.under,MB.under,underL_plain,under_plain,plain_ints,plain_span,plain_ins,plain_prg,-List.map_take,underL_insT]))
     ·simp +contextual (disch:=omega) only[Tryz.f10,dd10,go_sem,↓reduceIte,W_block,List.reduceReplicate,Nat.reduceAdd,Nat.reduceSub,reduceCtorEq,Nat.reduceLeDiff,Nat.reduceMul,Nat.reduceLT,Nat.reduceEqDiff,Int.reduceBNe,Int.reduceBEq,Int.reduceEq,Int.reduceLT,Int.reduceLE,Int.reduceGT,Int.reduceGE,mu10,Nat.reduceBEq,↓wrap_up,↓wrap_down,↓wrap_pred,↓wrap_sub_nat,Int.reduceToNat]
      refine⟨by simp[roomFor],[]++[z],next21 (by simpa using hlt) h2 ⟨hz2,hz1⟩ (fun h=>by simp only[List.length_nil,List.length_cons]at h;first|exact Or.inl rfl|omega),by simp;omega,?_⟩
      exact(by first|rfl|(refine prep_cut rfl (by rfl) (by rfl) (by rfl) ?_ ?_<;>simp[AV.underL,AV.under,MB.under,underL_plain,under_plain,plain_ints,plain_span,plain_ins,plain_prg,-List.map_take,underL_insT]))
  | cons x xs=>
    simp only[T21]
    simp only[List.length_cons]at hPk hlt
    simp +contextual (disch:=omega) only[Tryz.f10,dd10,go_sem,↓reduceIte,List.reduceReplicate,Nat.reduceAdd,Nat.reduceSub,reduceCtorEq,Nat.reduceLeDiff,Nat.reduceMul,Nat.reduceLT,Nat.reduceEqDiff,Int.reduceBNe,Int.reduceBEq,Int.reduceEq,Int.reduceLT,Int.reduceLE,Int.reduceGT,Int.reduceGE,mu10,Nat.reduceBEq,↓wrap_up,↓wrap_down,↓wrap_pred,↓wrap_sub_nat,Int.reduceToNat,W_block (id:=1),hPk]
    refine W_cut (fun s=>∃ z:Ins,z.set.length≤1∧okIns n caps runes z=true∧s=⟨119,[(7,.rf 4 1 0 0),(5,I ((xs.length+1:Nat):Int)),(4,.rf 1 1 0 0),(3,I n),(2,.rf 0 1 0 0),(0,.sl false (l.map I))],
     [.row 3 [.agg [.sl true [],I 0,.bool false]] 0,.row 3 [.agg [.ms 3 5 (xs.length+1) 0 (xs.length+1),I caps,.bool runes]] 0,.row 5 [insAVt x] 0,.row 5 (insAVt x::xs.map insAVt) 0,.row 5 [insAVt z] 0]⟩) ?_ ?_
    ·simp +contextual (disch:=omega) only[Tryz.f10,dd10,go_sem,↓reduceIte,W_block,List.reduceReplicate,Nat.reduceAdd,Nat.reduceSub,reduceCtorEq,Nat.reduceLeDiff,Nat.reduceMul,Nat.reduceLT,Nat.reduceEqDiff,Int.reduceBNe,Int.reduceBEq,Int.reduceEq,Int.reduceLT,Int.reduceLE,Int.reduceGT,Int.reduceGE,mu10,Nat.reduceBEq,↓wrap_up,↓wrap_down,↓wrap_pred,↓wrap_sub_nat,Int.reduceToNat,cut_norm]
     repeat' (first|intro _|apply And.intro)
     all_goals first
      | omega
      | (unfold dOk;kernel_rfl)
      | kernel_rfl
      | (refine⟨⟨_,_,_,_,[]⟩,?_,?_,rfl⟩<;>simp[okIns,refSpans,badAt,lastOk,hm1,hm2]<;>done)
      | (refine⟨⟨_,_,_,_,[]⟩,?_,?_,rfl⟩<;>simp[okIns,refSpans,badAt,lastOk,hm1,hm2]<;>omega)
      | (refine⟨⟨_,_,_,_,[]⟩,?_,?_,rfl⟩
         ·simp
         ·have q:=hm3 (k / 8) (by omega)
          simp[okIns,refSpans,badAt,lastOk]
          omega)
      | (refine⟨⟨_,_,_,_,[(97,_)]⟩,?_,?_,rfl⟩
         ·simp
         ·simp[okIns,refSpans,badAt,lastOk]
          (try split)<;>omega)
    ·rintro _ ⟨z,hz1,hz2,rfl⟩
     have hop:=okIns_op hz2
     by_cases h1n:xs.length+1+1=n
     ·by_cases ha:z.op=1
      ·simp +contextual (disch:=omega) only[Tryz.f10,dd10,go_sem,↓reduceIte,W_block,List.reduceReplicate,Nat.reduceAdd,Nat.reduceSub,reduceCtorEq,Nat.reduceLeDiff,Nat.reduceMul,Nat.reduceLT,Nat.reduceEqDiff,Int.reduceBNe,Int.reduceBEq,Int.reduceEq,Int.reduceLT,Int.reduceLE,Int.reduceGT,Int.reduceGE,mu10,Nat.reduceBEq,↓wrap_up,↓wrap_down,↓wrap_pred,↓wrap_sub_nat,Int.reduceToNat]
       refine⟨by simp[roomFor];omega,(x::xs)++[⟨0,0,0,0,[]⟩],next21 (by simpa using hlt) h2 ⟨ok_zero _ _ _,by simp⟩ (fun h=>by simp only[List.length_nil,List.length_cons]at h;first|exact Or.inl rfl|omega),by simp;omega,?_⟩
       simp only[List.cons_append,T21,List.length_append,List.length_cons,List.length_nil,Nat.zero_add]
       refine prep_cut (n:=4) rfl (by rfl) rfl ?_ ?_ ?_
       ·simp[List.take_of_length_le]
       ·simp[AV.underL,AV.under,underL_plain,plain_ints]
       ·simp[AV.underL,AV.under,MB.under,underL_plain,plain_span,underL_insT,underL_append]
      ·by_cases hb:4≤z.op
       ·simp +contextual (disch:=omega) only[Tryz.f10,dd10,go_sem,↓reduceIte,W_block,List.reduceReplicate,Nat.reduceAdd,Nat.reduceSub,reduceCtorEq,Nat.reduceLeDiff,Nat.reduceMul,Nat.reduceLT,Nat.reduceEqDiff,Int.reduceBNe,Int.reduceBEq,Int.reduceEq,Int.reduceLT,Int.reduceLE,Int.reduceGT,Int.reduceGE,mu10,Nat.reduceBEq,↓wrap_up,↓wrap_down,↓wrap_pred,↓wrap_sub_nat,Int.reduceToNat]
        refine⟨by simp[roomFor];omega,(x::xs)++[⟨0,0,0,0,[]⟩],next21 (by simpa using hlt) h2 ⟨ok_zero _ _ _,by simp⟩ (fun h=>by simp only[List.length_nil,List.length_cons]at h;first|exact Or.inl rfl|omega),by simp;omega,?_⟩
        simp only[List.cons_append,T21,List.length_append,List.length_cons,List.length_nil,Nat.zero_add]
        refine prep_cut (n:=4) rfl (by rfl) rfl ?_ ?_ ?_
        ·simp[List.take_of_length_le]
        ·simp[AV.underL,AV.under,underL_plain,plain_ints]
        ·simp[AV.underL,AV.under,MB.under,underL_plain,plain_span,underL_insT,underL_append]
       ·simp +contextual (disch:=omega) only[Tryz.f10,dd10,go_sem,↓reduceIte,W_block,List.reduceReplicate,Nat.reduceAdd,Nat.reduceSub,reduceCtorEq,Nat.reduceLeDiff,Nat.reduceMul,Nat.reduceLT,Nat.reduceEqDiff,Int.reduceBNe,Int.reduceBEq,Int.reduceEq,Int.reduceLT,Int.reduceLE,Int.reduceGT,Int.reduceGE,mu10,Nat.reduceBEq,↓wrap_up,↓wrap_down,↓wrap_pred,↓wrap_sub_nat,Int.reduceToNat]
        refine⟨by simp[roomFor];omega,(x::xs)++[z],next21 (by simpa using hlt) h2 ⟨hz2,hz1⟩ (fun h=>by simp only[List.length_nil,List.length_cons]at h;first|exact Or.inl rfl|omega),by simp;omega,?_⟩
        simp only[List.cons_append,T21,List.length_append,List.length_cons,List.length_nil,Nat.zero_add]
        refine prep_cut (n:=4) rfl (by rfl) rfl ?_ ?_ ?_
        ·simp[List.take_of_length_le]
        ·simp[AV.underL,AV.under,underL_plain,plain_ints]
        ·simp[AV.underL,AV.under,MB.under,underL_plain,plain_span,underL_insT,underL_append]
     ·simp +contextual (disch:=omega) only[Tryz.f10,dd10,go_sem,↓reduceIte,W_block,List.reduceReplicate,Nat.reduceAdd,Nat.reduceSub,reduceCtorEq,Nat.reduceLeDiff,Nat.reduceMul,Nat.reduceLT,Nat.reduceEqDiff,Int.reduceBNe,Int.reduceBEq,Int.reduceEq,Int.reduceLT,Int.reduceLE,Int.reduceGT,Int.reduceGE,mu10,Nat.reduceBEq,↓wrap_up,↓wrap_down,↓wrap_pred,↓wrap_sub_nat,Int.reduceToNat]
      refine⟨by simp[roomFor];omega,(x::xs)++[z],next21 (by simpa using hlt) h2 ⟨hz2,hz1⟩ (fun h=>by simp only[List.length_nil,List.length_cons]at h;first|exact Or.inl rfl|omega),by simp;omega,?_⟩
      simp only[List.cons_append,T21,List.length_append,List.length_cons,List.length_nil,Nat.zero_add]
      refine prep_cut (n:=4) rfl (by rfl) rfl ?_ ?_ ?_
      ·simp[List.take_of_length_le]
      ·simp[AV.underL,AV.under,underL_plain,plain_ints]
      ·simp[AV.underL,AV.under,MB.under,underL_plain,plain_span,underL_insT,underL_append]
 ·have hn':xs.length=n:=by omega
  cases xs with
  | nil=>simp at hn';omega
  | cons x xs=>
    simp only[T21]
    simp only[List.length_cons]at hn'
    simp +contextual (disch:=omega) only[Tryz.f10,dd10,go_sem,↓reduceIte,W_block,List.reduceReplicate,Nat.reduceAdd,Nat.reduceSub,reduceCtorEq,Nat.reduceLeDiff,Nat.reduceMul,Nat.reduceLT,Nat.reduceEqDiff,Int.reduceBNe,Int.reduceBEq,Int.reduceEq,Int.reduceLT,Int.reduceLE,Int.reduceGT,Int.reduceGE,mu10,Nat.reduceBEq,↓wrap_up,↓wrap_down,↓wrap_pred,↓wrap_sub_nat,Int.reduceToNat]
    exact⟨_,⟨⟨x::xs,caps,runes⟩,⟨by simp;omega,by simp only[];omega,fun i hi=>by simp only[List.length_cons,hn'];exact(h2 i hi).1,h3 hn',fun i hi=>(h2 i hi).2⟩,rfl⟩,fz_allT (ins:=x::xs) rfl (by simp)⟩
end
section
attribute [local go_sem] W_block
open Go.Proofs Go.RowKit Go.IntWalk
set_option maxRecDepth 100000
set_option maxHeartbeats 8000000
theorem polK_dead:polK.dead=pol1.dead:=rfl
theorem polK_bdead:polK.bdead=pol1.bdead:=rfl
theorem polK_racts:polK.racts=pol1.racts:=rfl
theorem polK_muts:polK.muts=pol1.muts:=rfl
theorem polK_alts:polK.alts=pol1.alts:=rfl
theorem k20 (n m:Int) (hn:In64 n) (hm:m≠0) (H:List MB):call Tryz.prog polK 20 [.int .i64 n,.int .i64 m] H=some (I (aroundI n m),H):=by
 obtain⟨h1,h2⟩:=hn
 refine call_run Tryz.func20 rfl rfl rfl rfl rfl rfl (fun _=>rfl) (by simp[AV.plain,AV.plainL,plain_ints,plain_span,plain_ins,plain_prg]) (by simp[AV.plain,AV.plainL,plain_ints,plain_span,plain_ins,plain_prg]) ?_ H
 simp +contextual (disch:=omega) only[Tryz.f20,dd20,go_sem,simprocAttr,mu20,↓wrap_up,↓wrap_down,↓wrap_pred,↓wrap_sub_nat,polK_dead,polK_bdead,polK_racts,polK_muts,polK_alts]
 unfold aroundI
 refine⟨fun h=>⟨hm,fzEq rfl ?_⟩,fun h=>⟨hm,fzEq rfl ?_⟩⟩
 ·rw[if_pos h];try (congr 2;omega)
 ·rw[if_neg h]
theorem k34 (l:List Int) (i m:Int) (hl:∀ x∈l,In64 x) (hm:m≠0) (H:List MB):call Tryz.prog polK 34 [.sl false (l.map I),.int .i64 i,.int .i64 m] H=some (I (pickI l i m),H):=by
 refine call_run Tryz.func34 rfl rfl rfl rfl rfl rfl (fun _=>rfl) (by simp[AV.plain,AV.plainL,plain_ints,plain_span,plain_ins,plain_prg]) (by simp[AV.plain,AV.plainL,plain_ints,plain_span,plain_ins,plain_prg]) ?_ H
 by_cases h0:i < 0
 ·have e:pickI l i m=0:=by simp[pickI,h0]
  rw[e]
  simp +contextual (disch:=omega) only[Tryz.f34,dd34,go_sem,simprocAttr,mu34,↓wrap_up,↓wrap_down,↓wrap_pred,↓wrap_sub_nat,polK_dead,polK_bdead,polK_racts,polK_muts,polK_alts]
  exact fzEq rfl rfl
 ·obtain⟨k,rfl⟩:∃ k:Nat,i=k:=⟨i.toNat,by omega⟩
  by_cases h1:k < l.length
  ·obtain⟨p,hp⟩:∃ p,l[k]?=some p:=⟨_,List.getElem?_eq_getElem h1⟩
   have e:pickI l k m=aroundI p m:=by simp[pickI,h0,hp]
   rw[e]
   have hf:=k20 p m (hl p (List.mem_of_getElem? hp)) hm
   simp +contextual (disch:=omega) only[Tryz.f34,dd34,go_sem,simprocAttr,mu34,↓wrap_up,↓wrap_down,↓wrap_pred,↓wrap_sub_nat,polK_dead,polK_bdead,polK_racts,polK_muts,polK_alts,hp,hf]
   exact fzEq rfl rfl
  ·have e:pickI l k m=0:=by simp[pickI,List.getElem?_eq_none (Nat.le_of_not_lt h1)]
   rw[e]
   simp +contextual (disch:=omega) only[Tryz.f34,dd34,go_sem,simprocAttr,mu34,↓wrap_up,↓wrap_down,↓wrap_pred,↓wrap_sub_nat,polK_dead,polK_bdead,polK_racts,polK_muts,polK_alts]
   exact fzEq rfl rfl
end
section
open Go.Proofs Go.RowKit Go.IntWalk
set_option maxRecDepth 100000
set_option maxHeartbeats 4000000
def T21k (l:List Int) (n caps:Int) (runes:Bool):List Ins→St
 | []=>(⟨119,[(5,I ((0:Nat):Int)),(4,.rf 2 1 0 0),(3,I n),(2,.rf 1 1 0 0),(0,.sl false (l.map I))],[.row 3 [.agg [.sl true [],I 0,.bool false]] 0,.row 3 [.agg [.sl true [],I 0,.bool false]] 0,.row 3 [.agg [.sl true [],I caps,.bool runes]] 0]⟩:St)
 | x::xs=>(⟨119,[(5,I ((xs.length+1:Nat):Int)),(4,.rf 2 1 0 0),(3,I n),(2,.rf 1 1 0 0),(0,.sl false (l.map I))],[.row 3 [.agg [.sl true [],I 0,.bool false]] 0,.row 3 [.agg [.sl true [],I 0,.bool false]] 0,.row 3 [.agg [.ms 4 5 (xs.length+1) 0 (xs.length+1),I caps,.bool runes]] 0,.row 5 [insAVt x] 0,.row 5 (insAVt x::xs.map insAVt) 0]⟩:St)
theorem k10 (l:List Int) (hl:∀ x∈l,In64 x):∃ r:AV×List MB,(∃(g:Prg) (x:Ins),SomeOk g∧r=(.agg [.ms 4 5 g.ins.length 0 g.ins.length,I g.caps,.bool g.runes],[.row 3 [.agg [.sl true [],I 0,.bool false]] 0,.row 3 [.agg [.ms 4 5 g.ins.length 0 g.ins.length,I g.caps,.bool g.runes]] 0,.row 3 [.agg [.ms 4 5 g.ins.length 0 g.ins.length,I g.caps,.bool g.runes]] 0,.row 5 [insAVt x] 0,.row 5 (g.ins.map insAVt) 0])) ∧
  call Tryz.prog polK 10 [.sl false (l.map I)] [.row 3 [.agg [.sl true [],I 0,.bool false]] 0]=some r:=by
 obtain⟨n,hn1,hn2,hn3⟩:∃ n:Nat,(n:Int)=1+pickI l 0 12∧1≤n∧n≤12:=by
  have:=pick_lt (l:=l) (i:=0) (m:=12) (by omega)
  exact⟨(1+pickI l 0 12).toNat,by omega,by omega,by omega⟩
 have hw:IntKind.i64.wrap (1+pickI l 0 12)=n:=by rw[i64_in]<;>omega
 have hcaps:=pick_lt (l:=l) (i:=1) (m:=3) (by omega)
 have rp:∀ H1 r H,retPol polK 10 H1 r H=some (r,H):=fun H1 r H=>rfl
 refine call_run2E (pol:=polK) Tryz.func10 rfl rfl rfl rfl (frzArgs_mix _ _ _ (by have h:=plain_ints l;simp[mixOk,AV.plain,h])) ?_
 have hP:=fun i m h=>k34 l i m hl h
 simp +contextual (disch:=omega) only[Tryz.f10,dd10,go_sem,↓reduceIte,W_block,List.reduceReplicate,Nat.reduceAdd,Nat.reduceSub,reduceCtorEq,Nat.reduceLeDiff,Nat.reduceMul,Nat.reduceLT,Nat.reduceEqDiff,Int.reduceBNe,Int.reduceBEq,Int.reduceEq,Int.reduceLT,Int.reduceLE,Int.reduceGT,Int.reduceGE,mu10,Nat.reduceBEq,↓wrap_up,↓wrap_down,↓wrap_pred,↓wrap_sub_nat,Int.reduceToNat,polK_dead,polK_bdead,polK_racts,polK_muts,polK_alts,hP 0 12 (by omega),hP 1 3 (by omega),hP 2 3 (by omega),hw]
 generalize pickI l 1 3=caps at *
 generalize (pickI l 2 3 == 0)=runes at *
 refine W_for (M:=(mskOf (polK.mask 10) (polK.gc 10) (polK.acts 10) 1 4)) rfl (T21k l n caps runes) (fun xs=>xs.length≤n∧(∀ i∈xs,okIns n caps runes i=true∧i.set.length≤1)∧(xs.length=n→lastGood ⟨xs,caps,runes⟩=true)) (fun xs=>n - xs.length) [] ?_ ⟨by simp,by simp,by simp;omega⟩ _ (by first|rfl|(refine prep_cut rfl (by rfl) (by rfl) (by rfl) ?_ ?_<;>simp[AV.underL,AV.under,MB.under,underL_plain,under_plain,plain_ints,plain_span,plain_ins,plain_prg,-List.map_take]))
 rintro xs ⟨h1,h2,h3⟩
 by_cases hlt:xs.length < n
 ·have hk:=pick_lt (l:=l) (i:=3+xs.length) (m:=1048576) (by omega)
  have hPk:=hP (3+xs.length) 1048576 (by omega)
  generalize pickI l (3+xs.length) 1048576=k at *
  have hm3:∀ z:Int,0 < caps→0≤z % (2 * caps)∧z % (2 * caps) < 2 * caps:=fun z h=>⟨Int.emod_nonneg _ (by omega),Int.emod_lt_of_pos _ (by omega)⟩
  have hmod:∀ z:Int,0≤z % n∧z % n < n:=fun z=>⟨Int.emod_nonneg _ (by omega),Int.emod_lt_of_pos _ (by omega)⟩
  have hm1:=fun z=>(hmod z).1
  have hm2:=fun z=>(hmod z).2
  cases xs with
  | nil=>
    simp only[T21k]
    simp only[List.length_nil]at hPk hlt
    simp +contextual (disch:=omega) only[Tryz.f10,dd10,go_sem,↓reduceIte,List.reduceReplicate,Nat.reduceAdd,Nat.reduceSub,reduceCtorEq,Nat.reduceLeDiff,Nat.reduceMul,Nat.reduceLT,Nat.reduceEqDiff,Int.reduceBNe,Int.reduceBEq,Int.reduceEq,Int.reduceLT,Int.reduceLE,Int.reduceGT,Int.reduceGE,mu10,Nat.reduceBEq,↓wrap_up,↓wrap_down,↓wrap_pred,↓wrap_sub_nat,Int.reduceToNat,polK_dead,polK_bdead,polK_racts,polK_muts,polK_alts,W_block (id:=1),hPk]
    refine W_cut (fun s=>∃ x:Ins,x.set.length≤1∧okIns n caps runes x=true∧s=⟨119,[(7,.rf 3 1 0 0),(5,I ((0:Nat):Int)),(4,.rf 2 1 0 0),(3,I n),(2,.rf 1 1 0 0),(0,.sl false (l.map I))],
     [.row 3 [.agg [.sl true [],I 0,.bool false]] 0,.row 3 [.agg [.sl true [],I 0,.bool false]] 0,.row 3 [.agg [.sl true [],I caps,.bool runes]] 0,.row 5 [insAVt x] 0]⟩) ?_ ?_
    ·simp +contextual (disch:=omega) only[Tryz.f10,dd10,go_sem,↓reduceIte,W_block,List.reduceReplicate,Nat.reduceAdd,Nat.reduceSub,reduceCtorEq,Nat.reduceLeDiff,Nat.reduceMul,Nat.reduceLT,Nat.reduceEqDiff,Int.reduceBNe,Int.reduceBEq,Int.reduceEq,Int.reduceLT,Int.reduceLE,Int.reduceGT,Int.reduceGE,mu10,Nat.reduceBEq,↓wrap_up,↓wrap_down,↓wrap_pred,↓wrap_sub_nat,Int.reduceToNat,polK_dead,polK_bdead,polK_racts,polK_muts,polK_alts,cut_norm]
     repeat' (first|intro _|apply And.intro)
     all_goals first
      | omega
      | (unfold dOk;kernel_rfl)
      | kernel_rfl
      | (refine⟨⟨_,_,_,_,[]⟩,?_,?_,rfl⟩<;>simp[okIns,refSpans,badAt,lastOk,hm1,hm2]<;>done)
      | (refine⟨⟨_,_,_,_,[]⟩,?_,?_,rfl⟩<;>simp[okIns,refSpans,badAt,lastOk,hm1,hm2]<;>omega)
      | (refine⟨⟨_,_,_,_,[]⟩,?_,?_,rfl⟩
         ·simp
         ·have q:=hm3 (k / 8) (by omega)
          simp[okIns,refSpans,badAt,lastOk]
          omega)
      | (refine⟨⟨_,_,_,_,[(97,_)]⟩,?_,?_,rfl⟩
         ·simp
         ·simp[okIns,refSpans,badAt,lastOk]
          (try split)<;>omega)
    ·rintro _ ⟨z,hz1,hz2,rfl⟩
     have hop:=okIns_op hz2
     by_cases h1n:0+1=n
     ·by_cases ha:z.op=1
      ·simp +contextual (disch:=omega) only[Tryz.f10,dd10,go_sem,↓reduceIte,W_block,List.reduceReplicate,Nat.reduceAdd,Nat.reduceSub,reduceCtorEq,Nat.reduceLeDiff,Nat.reduceMul,Nat.reduceLT,Nat.reduceEqDiff,Int.reduceBNe,Int.reduceBEq,Int.reduceEq,Int.reduceLT,Int.reduceLE,Int.reduceGT,Int.reduceGE,mu10,Nat.reduceBEq,↓wrap_up,↓wrap_down,↓wrap_pred,↓wrap_sub_nat,Int.reduceToNat,polK_dead,polK_bdead,polK_racts,polK_muts,polK_alts]
       refine⟨by simp[roomFor],[]++[⟨0,0,0,0,[]⟩],next21 (by simpa using hlt) h2 ⟨ok_zero _ _ _,by simp⟩ (fun h=>by simp only[List.length_nil,List.length_cons]at h;first|exact Or.inl rfl|omega),by simp;omega,?_⟩
       exact(by first|rfl|(refine prep_cut rfl (by rfl) (by rfl) (by rfl) ?_ ?_<;>simp[AV.underL,AV.under,MB.under,underL_plain,under_plain,plain_ints,plain_span,plain_ins,plain_prg,-List.map_take,underL_insT]))
      ·by_cases hb:4≤z.op
       ·simp +contextual (disch:=omega) only[Tryz.f10,dd10,go_sem,↓reduceIte,W_block,List.reduceReplicate,Nat.reduceAdd,Nat.reduceSub,reduceCtorEq,Nat.reduceLeDiff,Nat.reduceMul,Nat.reduceLT,Nat.reduceEqDiff,Int.reduceBNe,Int.reduceBEq,Int.reduceEq,Int.reduceLT,Int.reduceLE,Int.reduceGT,Int.reduceGE,mu10,Nat.reduceBEq,↓wrap_up,↓wrap_down,↓wrap_pred,↓wrap_sub_nat,Int.reduceToNat,polK_dead,polK_bdead,polK_racts,polK_muts,polK_alts]
        refine⟨by simp[roomFor],[]++[⟨0,0,0,0,[]⟩],next21 (by simpa using hlt) h2 ⟨ok_zero _ _ _,by simp⟩ (fun h=>by simp only[List.length_nil,List.length_cons]at h;first|exact Or.inl rfl|omega),by simp;omega,?_⟩
        exact(by first|rfl|(refine prep_cut rfl (by rfl) (by rfl) (by rfl) ?_ ?_<;>simp[AV.underL,AV.under,MB.under,underL_plain,under_plain,plain_ints,plain_span,plain_ins,plain_prg,-List.map_take,underL_insT]))
       ·simp +contextual (disch:=omega) only[Tryz.f10,dd10,go_sem,↓reduceIte,W_block,List.reduceReplicate,Nat.reduceAdd,Nat.reduceSub,reduceCtorEq,Nat.reduceLeDiff,Nat.reduceMul,Nat.reduceLT,Nat.reduceEqDiff,Int.reduceBNe,Int.reduceBEq,Int.reduceEq,Int.reduceLT,Int.reduceLE,Int.reduceGT,Int.reduceGE,mu10,Nat.reduceBEq,↓wrap_up,↓wrap_down,↓wrap_pred,↓wrap_sub_nat,Int.reduceToNat,polK_dead,polK_bdead,polK_racts,polK_muts,polK_alts]
        refine⟨by simp[roomFor],[]++[z],next21 (by simpa using hlt) h2 ⟨hz2,hz1⟩ (fun h=>by simp only[List.length_nil,List.length_cons]at h;first|exact Or.inl rfl|omega),by simp;omega,?_⟩
        exact(by first|rfl|(refine prep_cut rfl (by rfl) (by rfl) (by rfl) ?_ ?_<;>simp[AV.underL,AV.under,MB.under,underL_plain,under_plain,plain_ints,plain_span,plain_ins,plain_prg,-List.map_take,underL_insT]))
     ·simp +contextual (disch:=omega) only[Tryz.f10,dd10,go_sem,↓reduceIte,W_block,List.reduceReplicate,Nat.reduceAdd,Nat.reduceSub,reduceCtorEq,Nat.reduceLeDiff,Nat.reduceMul,Nat.reduceLT,Nat.reduceEqDiff,Int.reduceBNe,Int.reduceBEq,Int.reduceEq,Int.reduceLT,Int.reduceLE,Int.reduceGT,Int.reduceGE,mu10,Nat.reduceBEq,↓wrap_up,↓wrap_down,↓wrap_pred,↓wrap_sub_nat,Int.reduceToNat,polK_dead,polK_bdead,polK_racts,polK_muts,polK_alts]
      refine⟨by simp[roomFor],[]++[z],next21 (by simpa using hlt) h2 ⟨hz2,hz1⟩ (fun h=>by simp only[List.length_nil,List.length_cons]at h;first|exact Or.inl rfl|omega),by simp;omega,?_⟩
      exact(by first|rfl|(refine prep_cut rfl (by rfl) (by rfl) (by rfl) ?_ ?_<;>simp[AV.underL,AV.under,MB.under,underL_plain,under_plain,plain_ints,plain_span,plain_ins,plain_prg,-List.map_take,underL_insT]))
  | cons x xs=>
    simp only[T21k]
    simp only[List.length_cons]at hPk hlt
    simp +contextual (disch:=omega) only[Tryz.f10,dd10,go_sem,↓reduceIte,List.reduceReplicate,Nat.reduceAdd,Nat.reduceSub,reduceCtorEq,Nat.reduceLeDiff,Nat.reduceMul,Nat.reduceLT,Nat.reduceEqDiff,Int.reduceBNe,Int.reduceBEq,Int.reduceEq,Int.reduceLT,Int.reduceLE,Int.reduceGT,Int.reduceGE,mu10,Nat.reduceBEq,↓wrap_up,↓wrap_down,↓wrap_pred,↓wrap_sub_nat,Int.reduceToNat,polK_dead,polK_bdead,polK_racts,polK_muts,polK_alts,W_block (id:=1),hPk]
    refine W_cut (fun s=>∃ z:Ins,z.set.length≤1∧okIns n caps runes z=true∧s=⟨119,[(7,.rf 5 1 0 0),(5,I ((xs.length+1:Nat):Int)),(4,.rf 2 1 0 0),(3,I n),(2,.rf 1 1 0 0),(0,.sl false (l.map I))],
     [.row 3 [.agg [.sl true [],I 0,.bool false]] 0,.row 3 [.agg [.sl true [],I 0,.bool false]] 0,.row 3 [.agg [.ms 4 5 (xs.length+1) 0 (xs.length+1),I caps,.bool runes]] 0,.row 5 [insAVt x] 0,.row 5 (insAVt x::xs.map insAVt) 0,.row 5 [insAVt z] 0]⟩) ?_ ?_
    ·simp +contextual (disch:=omega) only[Tryz.f10,dd10,go_sem,↓reduceIte,W_block,List.reduceReplicate,Nat.reduceAdd,Nat.reduceSub,reduceCtorEq,Nat.reduceLeDiff,Nat.reduceMul,Nat.reduceLT,Nat.reduceEqDiff,Int.reduceBNe,Int.reduceBEq,Int.reduceEq,Int.reduceLT,Int.reduceLE,Int.reduceGT,Int.reduceGE,mu10,Nat.reduceBEq,↓wrap_up,↓wrap_down,↓wrap_pred,↓wrap_sub_nat,Int.reduceToNat,polK_dead,polK_bdead,polK_racts,polK_muts,polK_alts,cut_norm]
     repeat' (first|intro _|apply And.intro)
     all_goals first
      | omega
      | (unfold dOk;kernel_rfl)
      | kernel_rfl
      | (refine⟨⟨_,_,_,_,[]⟩,?_,?_,rfl⟩<;>simp[okIns,refSpans,badAt,lastOk,hm1,hm2]<;>done)
      | (refine⟨⟨_,_,_,_,[]⟩,?_,?_,rfl⟩<;>simp[okIns,refSpans,badAt,lastOk,hm1,hm2]<;>omega)
      | (refine⟨⟨_,_,_,_,[]⟩,?_,?_,rfl⟩
         ·simp
         ·have q:=hm3 (k / 8) (by omega)
          simp[okIns,refSpans,badAt,lastOk]
          omega)
      | (refine⟨⟨_,_,_,_,[(97,_)]⟩,?_,?_,rfl⟩
         ·simp
         ·simp[okIns,refSpans,badAt,lastOk]
          (try split)<;>omega)
    ·rintro _ ⟨z,hz1,hz2,rfl⟩
     have hop:=okIns_op hz2
     by_cases h1n:xs.length+1+1=n
     ·by_cases ha:z.op=1
      ·simp +contextual (disch:=omega) only[Tryz.f10,dd10,go_sem,↓reduceIte,W_block,List.reduceReplicate,Nat.reduceAdd,Nat.reduceSub,reduceCtorEq,Nat.reduceLeDiff,Nat.reduceMul,Nat.reduceLT,Nat.reduceEqDiff,Int.reduceBNe,Int.reduceBEq,Int.reduceEq,Int.reduceLT,Int.reduceLE,Int.reduceGT,Int.reduceGE,mu10,Nat.reduceBEq,↓wrap_up,↓wrap_down,↓wrap_pred,↓wrap_sub_nat,Int.reduceToNat,polK_dead,polK_bdead,polK_racts,polK_muts,polK_alts]
       refine⟨by simp[roomFor];omega,(x::xs)++[⟨0,0,0,0,[]⟩],next21 (by simpa using hlt) h2 ⟨ok_zero _ _ _,by simp⟩ (fun h=>by simp only[List.length_nil,List.length_cons]at h;first|exact Or.inl rfl|omega),by simp;omega,?_⟩
       simp only[List.cons_append,T21k,List.length_append,List.length_cons,List.length_nil,Nat.zero_add]
       refine prep_cut (n:=5) rfl (by rfl) rfl ?_ ?_ ?_
       ·simp[List.take_of_length_le]
       ·simp[AV.underL,AV.under,underL_plain,plain_ints]
       ·simp[AV.underL,AV.under,MB.under,underL_plain,plain_span,underL_insT,underL_append]
      ·by_cases hb:4≤z.op
       ·simp +contextual (disch:=omega) only[Tryz.f10,dd10,go_sem,↓reduceIte,W_block,List.reduceReplicate,Nat.reduceAdd,Nat.reduceSub,reduceCtorEq,Nat.reduceLeDiff,Nat.reduceMul,Nat.reduceLT,Nat.reduceEqDiff,Int.reduceBNe,Int.reduceBEq,Int.reduceEq,Int.reduceLT,Int.reduceLE,Int.reduceGT,Int.reduceGE,mu10,Nat.reduceBEq,↓wrap_up,↓wrap_down,↓wrap_pred,↓wrap_sub_nat,Int.reduceToNat,polK_dead,polK_bdead,polK_racts,polK_muts,polK_alts]
        refine⟨by simp[roomFor];omega,(x::xs)++[⟨0,0,0,0,[]⟩],next21 (by simpa using hlt) h2 ⟨ok_zero _ _ _,by simp⟩ (fun h=>by simp only[List.length_nil,List.length_cons]at h;first|exact Or.inl rfl|omega),by simp;omega,?_⟩
        simp only[List.cons_append,T21k,List.length_append,List.length_cons,List.length_nil,Nat.zero_add]
        refine prep_cut (n:=5) rfl (by rfl) rfl ?_ ?_ ?_
        ·simp[List.take_of_length_le]
        ·simp[AV.underL,AV.under,underL_plain,plain_ints]
        ·simp[AV.underL,AV.under,MB.under,underL_plain,plain_span,underL_insT,underL_append]
       ·simp +contextual (disch:=omega) only[Tryz.f10,dd10,go_sem,↓reduceIte,W_block,List.reduceReplicate,Nat.reduceAdd,Nat.reduceSub,reduceCtorEq,Nat.reduceLeDiff,Nat.reduceMul,Nat.reduceLT,Nat.reduceEqDiff,Int.reduceBNe,Int.reduceBEq,Int.reduceEq,Int.reduceLT,Int.reduceLE,Int.reduceGT,Int.reduceGE,mu10,Nat.reduceBEq,↓wrap_up,↓wrap_down,↓wrap_pred,↓wrap_sub_nat,Int.reduceToNat,polK_dead,polK_bdead,polK_racts,polK_muts,polK_alts]
        refine⟨by simp[roomFor];omega,(x::xs)++[z],next21 (by simpa using hlt) h2 ⟨hz2,hz1⟩ (fun h=>by simp only[List.length_nil,List.length_cons]at h;first|exact Or.inl rfl|omega),by simp;omega,?_⟩
        simp only[List.cons_append,T21k,List.length_append,List.length_cons,List.length_nil,Nat.zero_add]
        refine prep_cut (n:=5) rfl (by rfl) rfl ?_ ?_ ?_
        ·simp[List.take_of_length_le]
        ·simp[AV.underL,AV.under,underL_plain,plain_ints]
        ·simp[AV.underL,AV.under,MB.under,underL_plain,plain_span,underL_insT,underL_append]
     ·simp +contextual (disch:=omega) only[Tryz.f10,dd10,go_sem,↓reduceIte,W_block,List.reduceReplicate,Nat.reduceAdd,Nat.reduceSub,reduceCtorEq,Nat.reduceLeDiff,Nat.reduceMul,Nat.reduceLT,Nat.reduceEqDiff,Int.reduceBNe,Int.reduceBEq,Int.reduceEq,Int.reduceLT,Int.reduceLE,Int.reduceGT,Int.reduceGE,mu10,Nat.reduceBEq,↓wrap_up,↓wrap_down,↓wrap_pred,↓wrap_sub_nat,Int.reduceToNat,polK_dead,polK_bdead,polK_racts,polK_muts,polK_alts]
      refine⟨by simp[roomFor];omega,(x::xs)++[z],next21 (by simpa using hlt) h2 ⟨hz2,hz1⟩ (fun h=>by simp only[List.length_nil,List.length_cons]at h;first|exact Or.inl rfl|omega),by simp;omega,?_⟩
      simp only[List.cons_append,T21k,List.length_append,List.length_cons,List.length_nil,Nat.zero_add]
      refine prep_cut (n:=5) rfl (by rfl) rfl ?_ ?_ ?_
      ·simp[List.take_of_length_le]
      ·simp[AV.underL,AV.under,underL_plain,plain_ints]
      ·simp[AV.underL,AV.under,MB.under,underL_plain,plain_span,underL_insT,underL_append]
 ·have hn':xs.length=n:=by omega
  cases xs with
  | nil=>simp at hn';omega
  | cons x xs=>
    simp only[T21k]
    simp only[List.length_cons]at hn'
    simp +contextual (disch:=omega) only[Tryz.f10,dd10,go_sem,↓reduceIte,W_block,List.reduceReplicate,Nat.reduceAdd,Nat.reduceSub,reduceCtorEq,Nat.reduceLeDiff,Nat.reduceMul,Nat.reduceLT,Nat.reduceEqDiff,Int.reduceBNe,Int.reduceBEq,Int.reduceEq,Int.reduceLT,Int.reduceLE,Int.reduceGT,Int.reduceGE,mu10,Nat.reduceBEq,↓wrap_up,↓wrap_down,↓wrap_pred,↓wrap_sub_nat,Int.reduceToNat,polK_dead,polK_bdead,polK_racts,polK_muts,polK_alts]
    exact⟨_,⟨⟨x::xs,caps,runes⟩,x,⟨by simp;omega,by simp only[];omega,fun i hi=>by simp only[List.length_cons,hn'];exact(h2 i hi).1,h3 hn',fun i hi=>(h2 i hi).2⟩,rfl⟩,rp _ _ _⟩
end
end Go.Ev
