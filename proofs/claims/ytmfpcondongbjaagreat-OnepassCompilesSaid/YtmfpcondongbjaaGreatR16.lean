/- Functions of the program, each with what it computes; no further conditions. -/
import Derived.Test.YtmfpcondongbjaaGreatR07
import Derived.Test.YtmfpcondongbjaaGreatR08
import Derived.Test.YtmfpcondongbjaaGreatR15
import Derived.Test.YtmfpcondongbjaaGreatR14
set_option linter.unusedVariables false
set_option linter.unusedSimpArgs false
namespace Go.Ev
attribute [local go_sem] W_block evBuild splice tySzE List.head?_drop Nat.mul_one sameAt_zero sameAt_two sameAt_three sameAt_four sameAt_five room_ok
section
attribute [local go_sem] evAppend
open Go.Proofs Go.RowKit Go.IntWalk
set_option maxRecDepth 100000
set_option maxHeartbeats 16000000
theorem g27 {g:Prg} (h:OkP g.ins) {st:Nat} (hst:st < g.ins.length):∃ r:AV,(∃ b:Bool,r=.bool b∧(b=true↔ForkS g.ins st))∧∀ H,call Tryz.prog pol1 27 [prgAV g,NV st] H=some (r,H):=by
 obtain⟨z,h58⟩:=g58s h hst
 have hat:=(fromS_in g.ins st).at_
 have hsl:=stops_len h hst
 have hl:=h.len
 rw[fork_iff h]
 generalize fromS g.ins st=w at h58 hat hsl
 refine call_runA Tryz.func27 rfl rfl rfl rfl rfl rfl (fun _=>rfl) (by simp[AV.plain,AV.plainL,plain_ints,plain_span,plain_ins,plain_prg]) ?_ ?_
 ·rintro r ⟨b,rfl,_⟩;rfl
 cases htw:w.tw with
 | true=>
   simp +contextual (disch:=omega) only[Tryz.f27,dd27,go_sem,simprocAttr,mu27,↓wrap_up,↓wrap_down,↓wrap_pred,↓wrap_sub_nat,h58,htw]
   exact⟨_,⟨true,rfl,by simp⟩,_,rfl⟩
 | false=>
   simp +contextual (disch:=omega) only[Tryz.f27,dd27,go_sem,simprocAttr,mu27,↓wrap_up,↓wrap_down,↓wrap_pred,↓wrap_sub_nat,h58,htw]
   have hu:=wa_under g w z
   rw[htw]at hu
   refine W_count (M:=(mskOf (pol1.mask 27) (pol1.gc 27) (pol1.acts 27) 0 6)) (by rfl) w.stops.length (fun i=>(⟨81,[(6,NV i),(5,.rf 1 1 0 0),(2,.rf 0 1 0 0)],[.row 3 [prgAV g] 0,.row 6 [.agg [.sl false (g.ins.map insAV),I g.caps,.bool g.runes,.ms 2 1 w.seen.length 0 w.seen.length,.ms 3 1 w.stops.length 0 w.stops.length,.bool false]] 0,.row 1 (w.seen.map NV) z,.row 1 (w.stops.map NV) 0]⟩:St)) (fun i=>InvP g.ins w.stops i 0) ?_ ?_ ⟨fun k k' a b h=>by omega,fun k' a b h=>by omega⟩ _ ?_
   ·intro i hi hg
    obtain⟨a,ha⟩:∃ a,w.stops[i]?=some a:=⟨_,List.getElem?_eq_getElem hi⟩
    obtain⟨x,hx,_⟩:=hat a (List.mem_of_getElem? ha)
    have ha':(w.stops.map NV)[i]?=some (NV a):=by simp[ha]
    have hx':(g.ins.map insAV)[a]?=some (insAV x):=by simp[hx]
    have hsx:=(h.sets x (List.mem_of_getElem? hx)).2
    have hlen:a < g.ins.length:=(List.getElem?_eq_some_iff.1 hx).1
    have hlt:((i:Int) < ((w.stops.length:Nat):Int))=True:=eq_true (by omega)
    have hwi:IntKind.i64.wrap ((i:Int)+1)=((i+1:Nat):Int):=by rw[i64_in]<;>omega
    simp +contextual (disch:=omega) only[Tryz.f27,dd27,go_sem,simprocAttr,mu27,↓wrap_up,↓wrap_down,↓wrap_pred,↓wrap_sub_nat,hlt]
    refine W_count (M:=(mskOf (pol1.mask 27) (pol1.gc 27) (pol1.acts 27) 0 9)) (by rfl) i (fun j=>(⟨81,[(7,NV j),(6,NV i),(5,.rf 1 1 0 0),(2,.rf 0 1 0 0)],[.row 3 [prgAV g] 0,.row 6 [.agg [.sl false (g.ins.map insAV),I g.caps,.bool g.runes,.ms 2 1 w.seen.length 0 w.seen.length,.ms 3 1 w.stops.length 0 w.stops.length,.bool false]] 0,.row 1 (w.seen.map NV) z,.row 1 (w.stops.map NV) 0]⟩:St)) (fun j=>InvP g.ins w.stops i j) ?_ ?_ hg _ ?_
    ·intro j hj hgj
     obtain⟨b,hb⟩:∃ a,w.stops[j]?=some a:=⟨_,List.getElem?_eq_getElem (by omega)⟩
     obtain⟨y,hy,_⟩:=hat b (List.mem_of_getElem? hb)
     have hb':(w.stops.map NV)[j]?=some (NV b):=by simp[hb]
     have hy':(g.ins.map insAV)[b]?=some (insAV y):=by simp[hy]
     have hsy:=(h.sets y (List.mem_of_getElem? hy)).2
     have hlenb:b < g.ins.length:=(List.getElem?_eq_some_iff.1 hy).1
     have hltj:((j:Int) < ((w.stops.length:Nat):Int))=True:=eq_true (by omega)
     have hltij:((j:Int) < (i:Int))=True:=eq_true (by omega)
     have hwj:IntKind.i64.wrap ((j:Int)+1)=((j+1:Nat):Int):=by rw[i64_in]<;>omega
     have h59:=fun H=>g59 x.set y.set (by omega) (by omega) H
     have hcl:clash g.ins a b=clashI x y:=by simp[clash,hx,hy]
     have ext:clashI x y=false→InvP g.ins w.stops i (j+1):=fun h=>⟨hgj.at_,fun k' a' b' hk ha1 hb1=>by
      rcases Nat.lt_succ_iff_lt_or_eq.1 hk with hlt|he
      ·exact hgj.at1 k' a' b' hlt ha1 hb1
      ·rw[ha]at ha1;rw[he,hb]at hb1
       cases ha1;cases hb1
       rw[hcl];exact h⟩
     have yes:clashI x y=true→(true=true↔(False∨∃(i j a b:Nat),j < i∧w.stops[i]?=some a∧w.stops[j]?=some b∧clash g.ins a b=true)):=fun h=>by
      simp only[true_iff]
      exact .inr ⟨i,j,a,b,hj,ha,hb,by rw[hcl];exact h⟩
     by_cases hx0:x.op=0
     ·by_cases hy0:y.op=0
      ·simp +contextual (disch:=omega) only[Tryz.f27,dd27,go_sem,simprocAttr,mu27,↓wrap_up,↓wrap_down,↓wrap_pred,↓wrap_sub_nat,ha',hb',hx',hy',hlt,hltj,hltij,hwj,nonneg_nat,hx0,hy0]
       repeat' (first|intro _|apply And.intro|(unfold dOk;kernel_rfl)|exact St.beq_refl _|(show altO _ _ _ _=true;kernel_rfl)|(show (_ || _)=true;kernel_rfl)|(show (_ && _)=true;kernel_rfl))
       exact⟨_,⟨true,rfl,yes (by simp[clashI,hx0,hy0])⟩,_,rfl⟩
      ·simp +contextual (disch:=omega) only[Tryz.f27,dd27,go_sem,simprocAttr,mu27,↓wrap_up,↓wrap_down,↓wrap_pred,↓wrap_sub_nat,ha',hb',hx',hy',hlt,hltj,hltij,hwj,nonneg_nat,hx0,hy0]
       repeat' (first|intro _|apply And.intro|(unfold dOk;kernel_rfl)|exact St.beq_refl _|(show altO _ _ _ _=true;kernel_rfl)|(show (_ || _)=true;kernel_rfl)|(show (_ && _)=true;kernel_rfl))
       ·exact ext (by simp[clashI,hx0,hy0])
       ·exact prep_to rfl rfl rfl hu rfl
     ·by_cases hx1:x.op=1
      ·by_cases hy1:y.op=1
       ·cases hc:comB x.set y.set with
        | true=>
          simp +contextual (disch:=omega) only[Tryz.f27,dd27,go_sem,simprocAttr,mu27,↓wrap_up,↓wrap_down,↓wrap_pred,↓wrap_sub_nat,ha',hb',hx',hy',hlt,hltj,hltij,hwj,nonneg_nat,hx1,hy1,h59,hc]
          repeat' (first|intro _|apply And.intro|(unfold dOk;kernel_rfl)|exact St.beq_refl _|(show altO _ _ _ _=true;kernel_rfl)|(show (_ || _)=true;kernel_rfl)|(show (_ && _)=true;kernel_rfl))
          exact⟨_,⟨true,rfl,yes (by simp[clashI,hx1,hy1,hc])⟩,_,rfl⟩
        | false=>
          simp +contextual (disch:=omega) only[Tryz.f27,dd27,go_sem,simprocAttr,mu27,↓wrap_up,↓wrap_down,↓wrap_pred,↓wrap_sub_nat,ha',hb',hx',hy',hlt,hltj,hltij,hwj,nonneg_nat,hx1,hy1,h59,hc]
          repeat' (first|intro _|apply And.intro|(unfold dOk;kernel_rfl)|exact St.beq_refl _|(show altO _ _ _ _=true;kernel_rfl)|(show (_ || _)=true;kernel_rfl)|(show (_ && _)=true;kernel_rfl))
          ·exact ext (by simp[clashI,hx1,hy1,hc])
          ·exact prep_to rfl rfl rfl hu rfl
       ·simp +contextual (disch:=omega) only[Tryz.f27,dd27,go_sem,simprocAttr,mu27,↓wrap_up,↓wrap_down,↓wrap_pred,↓wrap_sub_nat,ha',hb',hx',hy',hlt,hltj,hltij,hwj,nonneg_nat,hx1,hy1]
        repeat' (first|intro _|apply And.intro|(unfold dOk;kernel_rfl)|exact St.beq_refl _|(show altO _ _ _ _=true;kernel_rfl)|(show (_ || _)=true;kernel_rfl)|(show (_ && _)=true;kernel_rfl))
        ·exact ext (by simp[clashI,hx1,hy1])
        ·exact prep_to rfl rfl rfl hu rfl
      ·simp +contextual (disch:=omega) only[Tryz.f27,dd27,go_sem,simprocAttr,mu27,↓wrap_up,↓wrap_down,↓wrap_pred,↓wrap_sub_nat,ha',hb',hx',hy',hlt,hltj,hltij,hwj,nonneg_nat,hx0,hx1]
       repeat' (first|intro _|apply And.intro|(unfold dOk;kernel_rfl)|exact St.beq_refl _|(show altO _ _ _ _=true;kernel_rfl)|(show (_ || _)=true;kernel_rfl)|(show (_ && _)=true;kernel_rfl))
       ·exact ext (by simp[clashI,hx0,hx1])
       ·exact prep_to rfl rfl rfl hu rfl
    ·intro hgj
     have hlt2:((i:Int) < (i:Int))=False:=eq_false (by omega)
     simp +contextual (disch:=omega) only[Tryz.f27,dd27,go_sem,simprocAttr,mu27,↓wrap_up,↓wrap_down,↓wrap_pred,↓wrap_sub_nat,hlt2,hwi]
     refine⟨⟨fun k k' a' b' hk hk' ha1 hb1=>?_,fun k' a' b' h=>by omega⟩,?_⟩
     ·rcases Nat.lt_succ_iff_lt_or_eq.1 hk with hlt|he
      ·exact hgj.at_ k k' a' b' hlt hk' ha1 hb1
      ·rw[he]at ha1 hk'
       exact hgj.at1 k' a' b' hk' ha1 hb1
     ·exact prep_to rfl rfl rfl hu rfl
    ·exact prep_to rfl rfl rfl hu rfl
   ·intro hg
    simp +contextual (disch:=omega) only[Tryz.f27,dd27,go_sem,simprocAttr,mu27,↓wrap_up,↓wrap_down,↓wrap_pred,↓wrap_sub_nat]
    refine⟨_,⟨false,rfl,?_⟩,_,rfl⟩
    simp only[Bool.false_eq_true,false_iff,false_or]
    rintro⟨i,j,a,b,hij,ha,hb,hc⟩
    rw[hg.at_ i j a b (List.getElem?_eq_some_iff.1 ha).1 hij ha hb]at hc
    cases hc
   ·exact prep_to rfl rfl rfl (wa_under g w z) (by simp only[WA,htw];rfl)
end
section
open Go.Proofs Go.RowKit Go.IntWalk
set_option maxRecDepth 100000
set_option maxHeartbeats 16000000
structure LeastTo (ins:List Ins) (i:Nat) (l:List Int):Prop where
 srt:l.Pairwise (·< ·)
 has:∀ n x,n < i→ins[n]?=some x→x.op=1→0 < x.set.length→keyI ins n∈l
 len:l.length≤i
theorem LeastTo.put {ins:List Ins} {i:Nat} {l:List Int} (h:LeastTo ins i l) {x:Ins} (hx:ins[i]?=some x) {n:Int} (hn:keyI ins i=n) {k:Nat} (hk:k≤l.length) (h1:∀ j y,j < k→l[j]?=some y→y < n) (h2:∀ y,l[k]?=some y→n < y):LeastTo ins (i+1) (l.take k++([n]++l.drop k)):=by
 have hdrop:∀ y∈l.drop k,n < y:=fun y hy=>by
  obtain⟨j,hj⟩:=List.mem_iff_getElem?.1 hy
  rw[List.getElem?_drop]at hj
  cases j with
  | zero=>exact h2 y hj
  | succ j=>
    obtain⟨hb,rfl⟩:=List.getElem?_eq_some_iff.1 hj
    have:=List.pairwise_iff_getElem.1 h.srt k (k+(j+1)) (by omega) hb (by omega)
    have h3:=h2 _ (List.getElem?_eq_getElem (by omega))
    omega
 have htake:∀ y∈l.take k,y < n:=fun y hy=>by
  obtain⟨j,hj⟩:=List.mem_iff_getElem?.1 hy
  rw[List.getElem?_take]at hj
  split at hj
  ·rename_i hjk;exact h1 j y hjk hj
  ·cases hj
 refine⟨?_,?_,?_⟩
 ·rw[List.pairwise_append]
  refine⟨h.srt.sublist (List.take_sublist _ _),?_,?_⟩
  ·rw[List.singleton_append,List.pairwise_cons]
   exact⟨hdrop,h.srt.sublist (List.drop_sublist _ _)⟩
  ·intro a ha b hb
   have:=htake a ha
   rcases List.mem_append.1 hb with hb|hb
   ·simp at hb;omega
   ·have:=hdrop b hb;omega
 ·intro m y hm hy h3 h4
  rcases Nat.lt_succ_iff_lt_or_eq.1 hm with hlt|rfl
  ·have:=h.has m y hlt hy h3 h4
   rw[← List.take_append_drop k l]at this
   rcases List.mem_append.1 this with h|h
   ·exact List.mem_append_left _ h
   ·exact List.mem_append_right _ (List.mem_append_right _ h)
  ·rw[hn];simp
 ·have:=h.len
  simp;omega
theorem LeastTo.skip {ins:List Ins} {i:Nat} {l:List Int} (h:LeastTo ins i l) (hs:∀ x,ins[i]?=some x→x.op=1→0 < x.set.length→keyI ins i∈l):LeastTo ins (i+1) l:=by
 refine⟨h.srt,fun n x hn hx h1 h2=>?_,Nat.le_succ_of_le h.len⟩
 rcases Nat.lt_succ_iff_lt_or_eq.1 hn with hlt|rfl
 ·exact h.has n x hlt hx h1 h2
 ·exact hs x hx h1 h2
theorem ints_ok (l:List Int):(l.map I).all (fun y=>decide (y.cells.length=1) && y.cells.all AV.ok)=true:=by simp[AV.cells,AV.ok]
theorem appI {H:List MB} {i n:Nat} {rs l:List Int} {t:Bool} (hi:getRow H i=some (1,rs.map I,0)) (hn:rs.length=n) (hr:n+l.length≤4000000000) :
  evAppend Tryz.prog H 22 22 (.ms i 1 n 0 n) (.sl t (l.map I))=some (.ms i 1 (n+l.length) 0 (n+l.length),H.set i (.row 1 ((rs++l).map I) 0)):=by
 have hs:srcElems Tryz.prog H 3 (.sl t (l.map I))=some (l.map I):=rfl
 rw[evAppend_end (e:=3) (by kernel_rfl) (by kernel_rfl) (k:=1) (by kernel_rfl) (by_:=8) (by kernel_rfl) (ze:=I 0) (by kernel_rfl) rfl (by omega) hs (ints_ok l) hi (by rw[List.length_map];exact hn) (Nat.zero_le _) (room_ok (by simpa using hr) (by omega))]
 rw[List.map_append,List.length_map]
theorem appNil (H:List MB) {l:List Int} {t:Bool} (hl:0 < l.length) (hr:l.length≤4000000000) :
  evAppend Tryz.prog H 22 22 (.sl true []) (.sl t (l.map I))=some (.ms H.length 1 l.length 0 l.length,H++[.row 1 (l.map I) 0]):=by
 cases l with
 | nil=>cases hl
 | cons a l=>
   have hs:srcElems Tryz.prog H 3 (.sl t ((a::l).map I))=some ((a::l).map I):=rfl
   unfold evAppend
   simp only[show tyElem Tryz.prog 22=some 3 by kernel_rfl,show tyNotInt Tryz.prog 22=true by kernel_rfl,show tySz Tryz.prog 3=some 1 by kernel_rfl,show tyBytes Tryz.prog 3=some 8 by kernel_rfl,show tyZero Tryz.prog 3=some (I 0) by kernel_rfl,hs]
   rw[if_pos ⟨ints_ok _,by omega,rfl⟩]
   simp only[List.map_cons]
   rw[if_pos ⟨trivial,room_ok (by simp at hr ⊢;omega) (by omega),rfl⟩]
   simp
theorem appNil0 (H:List MB) {t:Bool}:evAppend Tryz.prog H 22 22 (.sl true []) (.sl t [])=some (.sl true [],H):=by
 unfold evAppend
 simp only[show tyElem Tryz.prog 22=some 3 by kernel_rfl,show tyNotInt Tryz.prog 22=true by kernel_rfl,show tySz Tryz.prog 3=some 1 by kernel_rfl,show tyBytes Tryz.prog 3=some 8 by kernel_rfl,show tyZero Tryz.prog 3=some (I 0) by kernel_rfl,srcElems]
 rfl
theorem g40 {g:Prg} (h:OkP g.ins):∃ r:AV,(∃ l:List Int,r=.sl false (l.map I)∧LeastTo g.ins g.ins.length l)∧∀ H,call Tryz.prog pol1 40 [prgAV g] H=some (r,H):=by
 have hl:=h.len
 refine call_runA Tryz.func40 rfl rfl rfl rfl rfl rfl (fun _=>rfl) (by simp[AV.plain,AV.plainL,plain_ints,plain_span,plain_ins,plain_prg]) ?_ ?_
 ·rintro r ⟨l,rfl,_⟩;exact plain_ints l
 have hnil:∀ H,fz (.sl true []) H=some (.sl false [],H):=fun H=>rfl
 simp +contextual (disch:=omega) only[Tryz.f40,dd40,go_sem,simprocAttr,evAppend,mu40,↓wrap_up,↓wrap_down,↓wrap_pred,↓wrap_sub_nat,hnil]
 have hu:[MB.row 3 [prgAV g] 0].all (MB.under 1)=true:=by
  have h1:=underL_plain 1 _ (plain_ins g.ins)
  simp[MB.under,AV.underL,AV.under,h1]
 have hul:∀ l:List Int,AV.underL 1 (l.map I)=true:=fun l=>underL_plain 1 _ (plain_ints l)
 have hu2:∀(x:Ins) (p:Int×Int) (m:List (Int×Int)),[MB.row 3 [prgAV g] 0,.row 5 [.agg [I 1,I x.x,I x.y,I x.n,.sl false (spanAV p::m.map spanAV)]] 0].all (MB.under 2)=true:=fun x p m=>by
  have h1:=underL_plain 2 _ (plain_ins g.ins)
  have h2:=underL_plain 2 _ (plain_span (p::m))
  simp only[List.map_cons]at h2
  simp[MB.under,AV.underL,AV.under,h1]at h2 ⊢
  exact h2
 have hk2:∀(k i:Nat) (n:Int) (l:List Int),AV.underL 2 [.int .i64 k,I n,.int .i64 i,.sl false (l.map I),.rf 0 1 0 0]=true:=fun k i n l=>by
  have:=underL_plain 2 _ (plain_ints l)
  simp[AV.underL,AV.under,this]
 have hk1:∀(i:Nat) (l:List Int),AV.underL 1 [.int .i64 i,.sl false (l.map I),.rf 0 1 0 0]=true:=fun i l=>by simp[AV.underL,AV.under,hul]
 refine W_for (σ:=Nat×List Int) (M:=(mskOf (pol1.mask 40) (pol1.gc 40) (pol1.acts 40) 0 3)) (by rfl) (fun s=>(⟨73,[(4,NV s.1),(3,.sl false (s.2.map I)),(1,.rf 0 1 0 0)],[.row 3 [prgAV g] 0]⟩:St)) (fun s=>s.1≤g.ins.length∧LeastTo g.ins s.1 s.2) (fun s=>g.ins.length - s.1) (0,[]) ?_ ⟨Nat.zero_le _,List.Pairwise.nil,fun n x hn=>by omega,Nat.le_refl _⟩ _ ?_
 ·rintro⟨i,l⟩ ⟨hi,hL⟩
  simp only at hi hL ⊢
  have hll:=hL.len
  have h41:=fun n H=>g41 l n (by omega) H
  by_cases hil:i < g.ins.length
  ·obtain⟨x,hx⟩:∃ x,g.ins[i]?=some x:=⟨_,List.getElem?_eq_getElem hil⟩
   have hx':(g.ins.map insAV)[i]?=some (insAV x):=by simp[hx]
   have hlt:((i:Int) < ((g.ins.length:Nat):Int))=True:=eq_true (by omega)
   have hwi:IntKind.i64.wrap ((i:Int)+1)=((i+1:Nat):Int):=by rw[i64_in]<;>omega
   by_cases h1:x.op=1
   ·by_cases hs:0 < x.set.length
    ·obtain⟨p,m,hp⟩:∃ p m,x.set=p::m:=by cases hq:x.set with
      | nil=>rw[hq]at hs;cases hs
      | cons p m=>exact⟨p,m,rfl⟩
     have hk:keyI g.ins i=p.1:=by simp[keyI,hx,hp]
     by_cases hm:p.1∈l
     ·simp +contextual (disch:=omega) only[Tryz.f40,dd40,go_sem,simprocAttr,evAppend,mu40,↓wrap_up,↓wrap_down,↓wrap_pred,↓wrap_sub_nat,hx',h1,hp,h41,hm,hlt,hwi,nonneg_nat]
      refine⟨(i+1,l),⟨hil,hL.skip fun y hy _ _=>by rw[hk];exact hm⟩,by simp only;omega,prep_to rfl rfl (hk1 i l) hu rfl⟩
     ·simp +contextual (disch:=omega) only[Tryz.f40,dd40,go_sem,simprocAttr,evAppend,mu40,↓wrap_up,↓wrap_down,↓wrap_pred,↓wrap_sub_nat,hx',h1,hp,h41,hm,hlt,hwi,nonneg_nat]
      refine W_for (σ:=Nat) (M:=(mskOf (pol1.mask 40) (pol1.gc 40) (pol1.acts 40) 0 9)) (by rfl) (fun k=>(⟨73,[(7,NV k),(6,I p.1),(4,NV i),(3,.sl false (l.map I)),(1,.rf 0 1 0 0)],[.row 3 [prgAV g] 0,.row 5 [.agg [I 1,I x.x,I x.y,I x.n,.sl false (spanAV p::m.map spanAV)]] 0]⟩:St)) (fun k=>k≤l.length∧∀ j y,j < k→l[j]?=some y→y < p.1) (fun k=>l.length - k) 0 ?_ ⟨Nat.zero_le _,fun j y h=>by omega⟩ _ ?_
      ·rintro k ⟨hkl,hkk⟩
       have hwk:IntKind.i64.wrap ((k:Int)+1)=((k+1:Nat):Int):=by rw[i64_in]<;>omega
       obtain⟨tk,htk⟩:∃ tk,tk=l.take k:=⟨_,rfl⟩
       obtain⟨dk,hdk⟩:∃ dk,dk=l.drop k:=⟨_,rfl⟩
       have ht:List.take k (List.map I l)=List.map I tk:=by rw[htk,List.map_take]
       have hd:List.drop k (List.take l.length (List.map I l))=List.map I dk:=by rw[List.take_of_length_le (by simp),hdk,List.map_drop]
       have htl:tk.length≤100000:=by rw[htk,List.length_take];omega
       have hdl:dk.length≤100000:=by rw[hdk,List.length_drop];omega
       have hkl3:(k≤l.length)=True:=eq_true hkl
       have done:(∀ y,l[k]?=some y→p.1 < y)→LeastTo g.ins (i+1) (l.take k++([p.1]++l.drop k)):=fun h2=>hL.put hx hk hkl hkk h2
       by_cases hkl2:k < l.length
       ·obtain⟨y,hy⟩:∃ y,l[k]?=some y:=⟨_,List.getElem?_eq_getElem hkl2⟩
        have hy':(l.map I)[k]?=some (I y):=by simp[hy]
        have hltk:((k:Int) < ((l.length:Nat):Int))=True:=eq_true (by omega)
        by_cases hyp:y < p.1
        ·simp +contextual (disch:=omega) only[Tryz.f40,dd40,go_sem,simprocAttr,evAppend,mu40,↓wrap_up,↓wrap_down,↓wrap_pred,↓wrap_sub_nat,hltk,hy',hyp,hwk,nonneg_nat]
         refine⟨k+1,⟨hkl2,fun j z hj hz=>?_⟩,by omega,prep_to rfl rfl (hk2 (k+1) i p.1 l) (hu2 x p m) rfl⟩
         rcases Nat.lt_succ_iff_lt_or_eq.1 hj with hlt|rfl
         ·exact hkk j z hlt hz
         ·rw[hy]at hz;cases hz;exact hyp
        ·have hne:∀ z,l[k]?=some z→p.1 < z:=fun z hz=>by
          rw[hy]at hz;cases hz
          have:y≠p.1:=fun e=>hm (e ▸ List.mem_of_getElem? hy)
          omega
         have dn:=done hne
         rw[← htk,← hdk]at dn
         simp +contextual (disch:=omega) only[Tryz.f40,dd40,go_sem,simprocAttr,mu40,↓wrap_up,↓wrap_down,↓wrap_pred,↓wrap_sub_nat,hltk,hy',hyp,hwk,nonneg_nat,hkl3,ht,hd,Bool.false_and]
         refine⟨(by simp),?_⟩
         by_cases h0:tk=[]
         ·subst h0
          have ap1:=appNil [MB.row 3 [prgAV g] 0,.row 5 [.agg [I 1,I x.x,I x.y,I x.n,.sl false (spanAV p::m.map spanAV)]] 0] (l:=[p.1]) (t:=true) (by simp) (by simp)
          have ap2:=fun t=>appI (H:=[MB.row 3 [prgAV g] 0,.row 5 [.agg [I 1,I x.x,I x.y,I x.n,.sl false (spanAV p::m.map spanAV)]] 0,.row 1 [I p.1] 0]) (i:=2) (n:=1) (rs:=[p.1]) (l:=dk) (t:=t) rfl rfl (by omega)
          have hf:=fz_row (H:=[MB.row 3 [prgAV g] 0,.row 5 [.agg [I 1,I x.x,I x.y,I x.n,.sl false (spanAV p::m.map spanAV)]] 0,.row 1 (([p.1]++dk).map I) 0]) (id:=2) (k:=1) (tot:=1+dk.length) (z:=0) (els:=([p.1]++dk).map I) rfl (by simp;omega) (plain_ints _)
          simp only[List.map_cons,List.map_nil,List.length_cons,List.length_nil,List.cons_append,List.nil_append,List.set,Nat.zero_add]at ap1 ap2 hf
          simp +contextual (disch:=omega) only[Tryz.f40,dd40,go_sem,simprocAttr,mu40,↓wrap_up,↓wrap_down,↓wrap_pred,↓wrap_sub_nat,hltk,hwk,hwi,hkl3,ht,hd,Bool.false_and,appNil0,List.map_nil,ap1,ap2,hf]
          refine⟨(by simp),?_⟩
          exact⟨(i+1,[]++([p.1]++dk)),⟨hil,dn⟩,by simp only;omega,prep_to rfl rfl (hk1 (i+1) (p.1::dk)) hu rfl⟩
         ·have hpos:0 < tk.length:=List.length_pos_iff.2 h0
          have ap0:=fun t=>appNil [MB.row 3 [prgAV g] 0,.row 5 [.agg [I 1,I x.x,I x.y,I x.n,.sl false (spanAV p::m.map spanAV)]] 0] (l:=tk) (t:=t) hpos (by omega)
          have ap1:=fun t=>appI (H:=[MB.row 3 [prgAV g] 0,.row 5 [.agg [I 1,I x.x,I x.y,I x.n,.sl false (spanAV p::m.map spanAV)]] 0,.row 1 (tk.map I) 0]) (i:=2) (n:=tk.length) (rs:=tk) (l:=[p.1]) (t:=t) rfl rfl (by simp;omega)
          have ap2:=fun t=>appI (H:=[MB.row 3 [prgAV g] 0,.row 5 [.agg [I 1,I x.x,I x.y,I x.n,.sl false (spanAV p::m.map spanAV)]] 0,.row 1 ((tk++[p.1]).map I) 0]) (i:=2) (n:=tk.length+1) (rs:=tk++[p.1]) (l:=dk) (t:=t) rfl (by simp) (by omega)
          have hf:=fz_row (H:=[MB.row 3 [prgAV g] 0,.row 5 [.agg [I 1,I x.x,I x.y,I x.n,.sl false (spanAV p::m.map spanAV)]] 0,.row 1 ((tk++[p.1]++dk).map I) 0]) (id:=2) (k:=1) (tot:=tk.length+1+dk.length) (z:=0) (els:=(tk++[p.1]++dk).map I) rfl (by simp;omega) (plain_ints _)
          simp only[List.map_cons,List.map_nil,List.map_append,List.length_cons,List.length_nil,List.cons_append,List.nil_append,List.append_assoc,List.set,Nat.zero_add]at ap0 ap1 ap2 hf
          simp +contextual (disch:=omega) only[Tryz.f40,dd40,go_sem,simprocAttr,mu40,↓wrap_up,↓wrap_down,↓wrap_pred,↓wrap_sub_nat,hltk,hwk,hwi,hkl3,ht,hd,Bool.false_and,ap0,ap1,ap2,hf,List.append_assoc]
          refine⟨(by simp),?_⟩
          refine⟨(i+1,tk++([p.1]++dk)),⟨hil,dn⟩,by simp only;omega,?_⟩
          simp only[List.map_append,List.map_cons,List.map_nil]
          have:=hk1 (i+1) (tk++([p.1]++dk))
          simp only[List.map_append,List.map_cons,List.map_nil]at this
          exact prep_to rfl rfl this hu rfl
       ·have hltk:((k:Int) < ((l.length:Nat):Int))=False:=eq_false (by omega)
        have hkk2:k=l.length:=by omega
        have dn:=done (fun z hz=>absurd (List.getElem?_eq_some_iff.1 hz).1 (by omega))
        rw[← htk,← hdk]at dn
        simp +contextual (disch:=omega) only[Tryz.f40,dd40,go_sem,simprocAttr,mu40,↓wrap_up,↓wrap_down,↓wrap_pred,↓wrap_sub_nat,hltk,hwk,nonneg_nat,hkl3,ht,hd,Bool.false_and]
        refine⟨(by simp),?_⟩
        by_cases h0:tk=[]
        ·subst h0
         have ap1:=appNil [MB.row 3 [prgAV g] 0,.row 5 [.agg [I 1,I x.x,I x.y,I x.n,.sl false (spanAV p::m.map spanAV)]] 0] (l:=[p.1]) (t:=true) (by simp) (by simp)
         have ap2:=fun t=>appI (H:=[MB.row 3 [prgAV g] 0,.row 5 [.agg [I 1,I x.x,I x.y,I x.n,.sl false (spanAV p::m.map spanAV)]] 0,.row 1 [I p.1] 0]) (i:=2) (n:=1) (rs:=[p.1]) (l:=dk) (t:=t) rfl rfl (by omega)
         have hf:=fz_row (H:=[MB.row 3 [prgAV g] 0,.row 5 [.agg [I 1,I x.x,I x.y,I x.n,.sl false (spanAV p::m.map spanAV)]] 0,.row 1 (([p.1]++dk).map I) 0]) (id:=2) (k:=1) (tot:=1+dk.length) (z:=0) (els:=([p.1]++dk).map I) rfl (by simp;omega) (plain_ints _)
         simp only[List.map_cons,List.map_nil,List.length_cons,List.length_nil,List.cons_append,List.nil_append,List.set,Nat.zero_add]at ap1 ap2 hf
         simp +contextual (disch:=omega) only[Tryz.f40,dd40,go_sem,simprocAttr,mu40,↓wrap_up,↓wrap_down,↓wrap_pred,↓wrap_sub_nat,hltk,hwk,hwi,hkl3,ht,hd,Bool.false_and,appNil0,List.map_nil,ap1,ap2,hf]
         refine⟨(by simp),?_⟩
         exact⟨(i+1,[]++([p.1]++dk)),⟨hil,dn⟩,by simp only;omega,prep_to rfl rfl (hk1 (i+1) (p.1::dk)) hu rfl⟩
        ·have hpos:0 < tk.length:=List.length_pos_iff.2 h0
         have ap0:=fun t=>appNil [MB.row 3 [prgAV g] 0,.row 5 [.agg [I 1,I x.x,I x.y,I x.n,.sl false (spanAV p::m.map spanAV)]] 0] (l:=tk) (t:=t) hpos (by omega)
         have ap1:=fun t=>appI (H:=[MB.row 3 [prgAV g] 0,.row 5 [.agg [I 1,I x.x,I x.y,I x.n,.sl false (spanAV p::m.map spanAV)]] 0,.row 1 (tk.map I) 0]) (i:=2) (n:=tk.length) (rs:=tk) (l:=[p.1]) (t:=t) rfl rfl (by simp;omega)
         have ap2:=fun t=>appI (H:=[MB.row 3 [prgAV g] 0,.row 5 [.agg [I 1,I x.x,I x.y,I x.n,.sl false (spanAV p::m.map spanAV)]] 0,.row 1 ((tk++[p.1]).map I) 0]) (i:=2) (n:=tk.length+1) (rs:=tk++[p.1]) (l:=dk) (t:=t) rfl (by simp) (by omega)
         have hf:=fz_row (H:=[MB.row 3 [prgAV g] 0,.row 5 [.agg [I 1,I x.x,I x.y,I x.n,.sl false (spanAV p::m.map spanAV)]] 0,.row 1 ((tk++[p.1]++dk).map I) 0]) (id:=2) (k:=1) (tot:=tk.length+1+dk.length) (z:=0) (els:=(tk++[p.1]++dk).map I) rfl (by simp;omega) (plain_ints _)
         simp only[List.map_cons,List.map_nil,List.map_append,List.length_cons,List.length_nil,List.cons_append,List.nil_append,List.append_assoc,List.set,Nat.zero_add]at ap0 ap1 ap2 hf
         simp +contextual (disch:=omega) only[Tryz.f40,dd40,go_sem,simprocAttr,mu40,↓wrap_up,↓wrap_down,↓wrap_pred,↓wrap_sub_nat,hltk,hwk,hwi,hkl3,ht,hd,Bool.false_and,ap0,ap1,ap2,hf,List.append_assoc]
         refine⟨(by simp),?_⟩
         refine⟨(i+1,tk++([p.1]++dk)),⟨hil,dn⟩,by simp only;omega,?_⟩
         simp only[List.map_append,List.map_cons,List.map_nil]
         have:=hk1 (i+1) (tk++([p.1]++dk))
         simp only[List.map_append,List.map_cons,List.map_nil]at this
         exact prep_to rfl rfl this hu rfl
      ·exact prep_to rfl rfl (hk2 0 i p.1 l) (hu2 x p m) rfl
    ·have hs0:x.set=[]:=List.length_eq_zero_iff.1 (by omega)
     simp +contextual (disch:=omega) only[Tryz.f40,dd40,go_sem,simprocAttr,evAppend,mu40,↓wrap_up,↓wrap_down,↓wrap_pred,↓wrap_sub_nat,hx',h1,hs0,hlt,hwi,nonneg_nat]
     refine⟨(i+1,l),⟨hil,hL.skip fun y hy _ h3=>?_⟩,by simp only;omega,prep_to rfl rfl (hk1 i l) hu rfl⟩
     rw[hx]at hy;cases hy;exact absurd h3 hs
   ·simp +contextual (disch:=omega) only[Tryz.f40,dd40,go_sem,simprocAttr,evAppend,mu40,↓wrap_up,↓wrap_down,↓wrap_pred,↓wrap_sub_nat,hx',h1,hlt,hwi,nonneg_nat]
    refine⟨(i+1,l),⟨hil,hL.skip fun y hy h2 _=>?_⟩,by simp only;omega,prep_to rfl rfl (hk1 i l) hu rfl⟩
    rw[hx]at hy;cases hy;exact absurd h2 h1
  ·have hlt:((i:Int) < ((g.ins.length:Nat):Int))=False:=eq_false (by omega)
   simp +contextual (disch:=omega) only[Tryz.f40,dd40,go_sem,simprocAttr,evAppend,mu40,↓wrap_up,↓wrap_down,↓wrap_pred,↓wrap_sub_nat,hlt]
   exact⟨_,⟨l,rfl,by rw[show g.ins.length=i by omega];exact hL⟩,_,fz_plain _ (plain_ints l)⟩
 ·exact prep_to rfl rfl (hk1 0 []) hu rfl
end
section
open Go.Proofs Go.RowKit Go.IntWalk
set_option maxRecDepth 100000
set_option maxHeartbeats 16000000
abbrev psAV (r:RS):AV:=.agg [NV r.st,.sl r.tx.isEmpty (r.tx.map I)]
abbrev psF (r:RS):AV:=.agg [NV r.st,.sl false (r.tx.map I)]
theorem plain_ps (l:List RS):AV.plainL (l.map psF)=true:=by
 induction l with
 | nil=>rfl
 | cons a l ih=>simp[AV.plainL,AV.plain,plain_ints,ih]
theorem under_ps (n:Nat) (l:List RS):AV.underL n (l.map psAV)=true:=by
 induction l with
 | nil=>rfl
 | cons a l ih=>simp[AV.underL,AV.under,underL_plain n _ (plain_ints a.tx),ih]
theorem fzL_ps (j:List AV→List MB→Option (List AV×List MB)) (H:List MB):∀ l:List RS,fzL j (l.map psAV) H=some (l.map psF,H)
 | []=>rfl
 | r::l=>by
   have h1:=fzL_plain j (r.tx.map I) H (plain_ints r.tx)
   simp only[List.map_cons,fzL,fzA,h1,fzL_ps j H l]
theorem fz_ps {id n len:Nat} {b:Bool} {H:List MB} {xs:List RS} (hr:getRow H id=some (2,xs.map psAV,0)) (h1:xs.length=n) (h2:len≤n) :
  ∃ H',fz (.tup [.ms id 2 n 0 len,.bool b]) H=some (.tup [.sl false ((xs.take len).map psF),.bool b],H'):=by
 refine⟨mark H id len,?_⟩
 have h3:fzA (fzJ 6) (.ms id 2 n 0 len) H=some (.sl false ((xs.take len).map psF),mark H id len):=by
  have h5:fzL (fzJ 5) (((xs.map psAV).drop 0).take len) (mark H id (0+len))=some ((xs.take len).map psF,mark H id (0+len)):=by
   rw[List.drop_zero,← List.map_take]
   exact fzL_ps _ _ _
  have:=fzA_ms (n:=5) (tot:=n) hr (by rw[List.length_map];exact h1) (by omega) h5
  rw[Nat.zero_add]at this
  exact this
 simp only[fz,fzA_tup,fzL,h3]
 rfl
theorem appPs {H:List MB} {i n b:Nat} {rs:List RS} {l:List Int} {t:Bool} (hi:getRow H i=some (2,rs.map psAV,0)) (hn:rs.length=n) (hr:n+1≤4000000000) :
  evAppend Tryz.prog H 40 40 (.ms i 2 n 0 n) (.sl t [.agg [NV b,.sl false (l.map I)]])=some (.ms i 2 (n+1) 0 (n+1),H.set i (.row 2 (rs.map psAV++[.agg [NV b,.sl false (l.map I)]]) 0)):=by
 have hs:srcElems Tryz.prog H 46 (.sl t [.agg [NV b,.sl false (l.map I)]])=some [.agg [NV b,.sl false (l.map I)]]:=rfl
 rw[evAppend_end (e:=46) (by kernel_rfl) (by kernel_rfl) (k:=2) (by kernel_rfl) (by_:=32) (by kernel_rfl) (ze:=.agg [I 0,.sl true []]) (by kernel_rfl) rfl (by omega) hs rfl hi (by rw[List.length_map];exact hn) (Nat.zero_le _) (room_ok (by simpa using hr) (by omega))]
 rfl
theorem appK {H:List MB} {i n z b:Nat} {rs:List RS} {t:Bool} (hi:getRow H i=some (1,rs.map fun r=>NV r.st,z)) (hz:z≤n) (hn:rs.length=n) (hr:n+1≤4000000000) :
  evAppend Tryz.prog H 22 22 (.ms i 1 n 0 n) (.sl t [NV b])=some (.ms i 1 (n+1) 0 (n+1),H.set i (.row 1 ((rs.map fun r=>NV r.st)++[NV b]) z)):=by
 have hs:srcElems Tryz.prog H 3 (.sl t [NV b])=some [NV b]:=rfl
 rw[evAppend_end (e:=3) (by kernel_rfl) (by kernel_rfl) (k:=1) (by kernel_rfl) (by_:=8) (by kernel_rfl) (ze:=I 0) (by kernel_rfl) rfl (by omega) hs rfl hi (by rw[List.length_map];exact hn) hz (room_ok (by simpa using hr) (by omega))]
 rfl
abbrev seH (g:Prg) (xs:List RS) (z:Nat) (K:List MB):List MB:=.row 3 [prgAV g] 0::.row 2 (xs.map psAV) 0::.row 1 (xs.map fun r=>NV r.st) z::K
theorem se_under (g:Prg) (xs:List RS) (z:Nat):(seH g xs z []).all (MB.under 3)=true:=by
 have h1:=underL_plain 3 _ (plain_ins g.ins)
 have h2:=under_ps 3 xs
 have h3:AV.underL 3 (xs.map fun r=>NV r.st)=true:=by
  have:=underL_plain 3 _ (plain_nv (xs.map (·.st)))
  rwa [List.map_map]at this
 simp[MB.under,AV.underL,AV.under,h1,h2,h3]
theorem g41k (xs:List RS) (n z:Nat) (g:Prg) (K:List MB) (hl:xs.length≤1000000000) (hz:z≤xs.length) :
  call Tryz.prog pol1 41 [.ms 2 1 xs.length 0 xs.length,NV n] (seH g xs z K)=some (.bool (decide (n∈xs.map (·.st))),seH g xs xs.length K):=by
 have:=g41m (xs.map (·.st)) 2 n z (by simpa using hl) (seH g xs z K) (by simp[getRow])
 rw[List.length_map]at this
 rw[this]
 congr 2
 unfold mark
 simp[getRow,Nat.max_eq_right hz]
theorem XOk.txl {ins:List Ins} {xs:List RS} (h:XOk ins xs):∀(j:Nat) (r:RS),xs[j]?=some r→r.tx.length≤j:=by
 intro j
 induction j using Nat.strongRecOn with
 | ind j ih=>
   intro r hr
   rcases h.bk j r hr with ⟨_,h1⟩|⟨k,q,h1,_,h3,h4⟩
   ·rw[h1];exact Nat.zero_le _
   ·have:=ih k h1 q h3
    rw[h4];simp;omega
theorem g16 {g:Prg} (h:OkP g.ins):∃ r:AV,(∃ syms xs fk,LeastTo g.ins g.ins.length syms∧srch g.ins syms (g.ins.length+1) 0 xs0=(xs,fk)∧r=.tup [.sl false (xs.map psF),.bool fk])∧∀ H,call Tryz.prog pol1 16 [prgAV g] H=some (r,H):=by
 have hl:=h.len
 obtain⟨r40,⟨syms,rfl,hsy⟩,h40⟩:=g40 h
 have hsl:=hsy.len
 refine call_runA Tryz.func16 rfl rfl rfl rfl rfl rfl (fun _=>rfl) (by simp[AV.plain,AV.plainL,plain_ints,plain_span,plain_ins,plain_prg]) ?_ ?_
 ·rintro r ⟨syms,xs,fk,_,_,rfl⟩;simp[AV.plain,AV.plainL,plain_ps]
 have hnil:∀ H,fz (.sl true []) H=some (.sl false [],H):=fun H=>rfl
 simp +contextual (disch:=omega) only[Tryz.f16,dd16,go_sem,simprocAttr,evAppend,mu16,↓wrap_up,↓wrap_down,↓wrap_pred,↓wrap_sub_nat,h40,hnil]
 have hk5:∀(i n:Nat),AV.underL 3 [.int .i64 i,.sl false (syms.map I),.ms 2 1 n 0 n,.ms 1 2 n 0 n,.rf 0 1 0 0]=true:=fun i n=>by
  have:=underL_plain 3 _ (plain_ints syms)
  simp[AV.underL,AV.under,this]
 refine W_for (σ:=(Nat×Nat)×List RS) (M:=(mskOf (pol1.mask 16) (pol1.gc 16) (pol1.acts 16) 0 5)) (by rfl) (fun s=>(⟨81,[(7,NV s.1.1),(6,.sl false (syms.map I)),(5,.ms 2 1 s.2.length 0 s.2.length),(4,.ms 1 2 s.2.length 0 s.2.length),(1,.rf 0 1 0 0)],[.row 3 [prgAV g] 0,.row 2 (s.2.map psAV) 0,.row 1 (s.2.map fun r=>NV r.st) s.1.2]⟩:St))
  (fun s=>XOk g.ins s.2∧s.1.2≤s.2.length∧s.1.1≤s.2.length∧srch g.ins syms (g.ins.length+1 - s.1.1) s.1.1 s.2=srch g.ins syms (g.ins.length+1) 0 xs0) (fun s=>g.ins.length+1 - s.1.1) ((0,0),xs0) ?_ ⟨xs0_ok h,Nat.zero_le _,Nat.zero_le _,rfl⟩ _ ?_
 ·rintro⟨⟨i,z⟩,xs⟩ ⟨hx,hz,hi,hr⟩
  simp only at hx hz hi hr ⊢
  have hxl:=hx.len
  obtain⟨f,hf⟩:∃ f,g.ins.length+1 - i=f+1:=⟨g.ins.length - i,by omega⟩
  rw[hf]at hr
  by_cases hil:i < xs.length
  ·obtain⟨q,hq⟩:∃ q,xs[i]?=some q:=⟨_,List.getElem?_eq_getElem hil⟩
   have hq':(xs.map psAV)[i]?=some (psAV q):=by simp[hq]
   have hqs:=hx.lt q (List.mem_of_getElem? hq)
   obtain⟨r27,⟨b,rfl,hb⟩,h27⟩:=g27 h hqs
   have hlt:((i:Int) < ((xs.length:Nat):Int))=True:=eq_true (by omega)
   have hwi:IntKind.i64.wrap ((i:Int)+1)=((i+1:Nat):Int):=by rw[i64_in]<;>omega
   simp only[srch,hq]at hr
   cases b with
   | true=>
     rw[if_pos (hb.1 rfl)]at hr
     simp +contextual (disch:=omega) only[Tryz.f16,dd16,go_sem,simprocAttr,evAppend,mu16,↓wrap_up,↓wrap_down,↓wrap_pred,↓wrap_sub_nat,hlt,hq',h27,hwi,nonneg_nat]
     refine⟨(by unfold dOk;kernel_rfl),_,⟨syms,_,_,hsy,hr.symm,rfl⟩,fz_ps rfl rfl (by omega)⟩
   | false=>
     rw[if_neg (fun hF=>nomatch hb.2 hF)]at hr
     simp +contextual (disch:=omega) only[Tryz.f16,dd16,go_sem,simprocAttr,evAppend,mu16,↓wrap_up,↓wrap_down,↓wrap_pred,↓wrap_sub_nat,hlt,hq',h27,hwi,nonneg_nat]
     refine⟨(by unfold dOk;kernel_rfl),?_⟩
     have hk6:∀(k i n:Nat),AV.underL 3 [.int .i64 k,.int .i64 i,.sl false (syms.map I),.ms 2 1 n 0 n,.ms 1 2 n 0 n,.rf 0 1 0 0]=true:=fun k i n=>by
      have:=underL_plain 3 _ (plain_ints syms)
      simp[AV.underL,AV.under,this]
     refine W_for (σ:=(Nat×Nat)×List RS) (M:=(mskOf (pol1.mask 16) (pol1.gc 16) (pol1.acts 16) 0 10)) (by rfl) (fun s=>(⟨81,[(8,NV s.1.1),(7,NV i),(6,.sl false (syms.map I)),(5,.ms 2 1 s.2.length 0 s.2.length),(4,.ms 1 2 s.2.length 0 s.2.length),(1,.rf 0 1 0 0)],[.row 3 [prgAV g] 0,.row 2 (s.2.map psAV) 0,.row 1 (s.2.map fun r=>NV r.st) s.1.2]⟩:St))
      (fun s=>XOk g.ins s.2∧s.1.2≤s.2.length∧s.1.1≤syms.length∧s.2[i]?=some q∧(syms.drop s.1.1).foldl (addS g.ins i q) s.2=syms.foldl (addS g.ins i q) xs) (fun s=>syms.length - s.1.1) ((0,z),xs) ?_ ⟨hx,hz,Nat.zero_le _,hq,rfl⟩ _ ?_
     ·rintro⟨⟨k,z1⟩,ys⟩ ⟨hy,hz1,hk,hyq,hfo⟩
      simp only at hy hz1 hk hyq hfo ⊢
      have hyl:=hy.len
      have hyq':(ys.map psAV)[i]?=some (psAV q):=by simp[hyq]
      have hyi:=(List.getElem?_eq_some_iff.1 hyq).1
      by_cases hks:k < syms.length
      ·obtain⟨s,hs⟩:∃ s,syms[k]?=some s:=⟨_,List.getElem?_eq_getElem hks⟩
       have hs':(syms.map I)[k]?=some (I s):=by simp[hs]
       have hltk:((k:Int) < ((syms.length:Nat):Int))=True:=eq_true (by omega)
       have hlti:((i:Int) < ((ys.length:Nat):Int))=True:=eq_true (by omega)
       have hwk:IntKind.i64.wrap ((k:Int)+1)=((k+1:Nat):Int):=by rw[i64_in]<;>omega
       have h28:=fun H=>g28 h hqs s H
       rw[List.drop_eq_getElem_cons hks,show syms[k]=s from(List.getElem?_eq_some_iff.1 hs).2,List.foldl_cons]at hfo
       rw[show addS g.ins i q ys s=(match leadS g.ins q.st s with
        | some b=>if b∈ys.map (·.st) then ys else ys++[⟨b,i,s,q.tx++[s]⟩]
        | none=>ys) from rfl]at hfo
       cases hle:leadS g.ins q.st s with
       | none=>
         have hli:leadI g.ins q.st s = -1:=by simp[leadI,hle]
         rw[hli]at h28
         simp only[hle]at hfo
         simp +contextual (disch:=omega) only[Tryz.f16,dd16,go_sem,simprocAttr,evAppend,mu16,↓wrap_up,↓wrap_down,↓wrap_pred,↓wrap_sub_nat,hltk,hlti,hyq',hs',h28,hwk,nonneg_nat]
         exact⟨(by unfold dOk;kernel_rfl),((k+1,z1),ys),⟨hy,hz1,hks,hyq,hfo⟩,by simp only;omega,prep_to rfl rfl (hk6 (k+1) i ys.length) (se_under g ys z1) rfl⟩
       | some b=>
         have hli:leadI g.ins q.st s=((b:Nat):Int):=by simp[leadI,hle]
         rw[hli]at h28
         simp only[hle]at hfo
         have h41:=g41k ys b z1 g [] (by omega) hz1
         simp only[seH]at h41
         by_cases hbm:b∈ys.map (·.st)
         ·rw[if_pos hbm]at hfo
          simp +contextual (disch:=omega) only[Tryz.f16,dd16,go_sem,simprocAttr,evAppend,mu16,↓wrap_up,↓wrap_down,↓wrap_pred,↓wrap_sub_nat,hltk,hlti,hyq',hs',h28,hwk,nonneg_nat,h41,hbm]
          exact⟨(by unfold dOk;kernel_rfl),((k+1,ys.length),ys),⟨hy,Nat.le_refl _,hks,hyq,hfo⟩,by simp only;omega,prep_to rfl rfl (hk6 (k+1) i ys.length) (se_under g ys ys.length) rfl⟩
         ·rw[if_neg hbm]at hfo
          obtain⟨n0,i0,rfl,hrd,hin0,_⟩:=lead_rd h hle
          obtain⟨i1,hi1,hop1,_⟩:=rd_op h hrd
          have hnew:XOk g.ins (ys++[⟨n0+1,i,s,q.tx++[s]⟩]):=hy.add (h.sym n0 i1 hi1 hop1) hbm hyq
          have htl:q.tx.length≤100000:=by have:=hx.txl i q hq;omega
          have hun:=se_under g (ys++[⟨n0+1,i,s,q.tx++[s]⟩]) ys.length
          have ak:=fun(t:Bool) (x:MB)=>appK (H:=[MB.row 3 [prgAV g] 0,.row 2 (ys.map psAV) 0,.row 1 (ys.map fun r=>NV r.st) ys.length,x]) (i:=2) (n:=ys.length) (z:=ys.length) (b:=n0+1) (rs:=ys) (t:=t) rfl (Nat.le_refl _) rfl (by omega)
          have ap:=fun(t:Bool) (y x:MB)=>appPs (H:=[MB.row 3 [prgAV g] 0,.row 2 (ys.map psAV) 0,y,x]) (i:=1) (n:=ys.length) (b:=n0+1) (rs:=ys) (l:=q.tx++[s]) (t:=t) rfl rfl (by omega)
          simp only[List.set,List.map_append,List.map_cons,List.map_nil]at ak ap
          by_cases h0:q.tx=[]
          ·have a1:=fun(t:Bool)=>appNil [MB.row 3 [prgAV g] 0,.row 2 (ys.map psAV) 0,.row 1 (ys.map fun r=>NV r.st) ys.length] (l:=[s]) (t:=t) (by simp) (by simp)
           have hf:=fz_row (H:=[MB.row 3 [prgAV g] 0,.row 2 (ys.map psAV) 0,.row 1 (ys.map fun r=>NV r.st) ys.length,.row 1 [I s] 0]) (id:=3) (k:=1) (tot:=1) (z:=0) (els:=[I s]) rfl rfl rfl
           have hm:mark [MB.row 3 [prgAV g] 0,.row 2 (ys.map psAV) 0,.row 1 (ys.map fun r=>NV r.st) ys.length,.row 1 [I s] 0] 3 1=[MB.row 3 [prgAV g] 0,.row 2 (ys.map psAV) 0,.row 1 (ys.map fun r=>NV r.st) ys.length,.row 1 [I s] 1]:=rfl
           rw[hm]at hf
           simp only[List.map_cons,List.map_nil,List.length_cons,List.length_nil,List.cons_append,List.nil_append,Nat.zero_add]at a1
           rw[h0]at ap hun
           simp only[List.map_nil,List.nil_append]at ap
           simp +contextual (disch:=omega) only[Tryz.f16,dd16,go_sem,simprocAttr,mu16,↓wrap_up,↓wrap_down,↓wrap_pred,↓wrap_sub_nat,hltk,hlti,hyq',hs',h28,hwk,nonneg_nat,h41,hbm,h0,List.isEmpty_nil,List.map_nil,appNil0,a1,hf,ak,ap]
           repeat' (first|intro _|apply And.intro|(unfold dOk;kernel_rfl)|exact St.beq_refl _|(show altO _ _ _ _=true;kernel_rfl)|(show (_ || _)=true;kernel_rfl)|(show (_ && _)=true;kernel_rfl))
           refine⟨((k+1,ys.length),ys++[⟨n0+1,i,s,q.tx++[s]⟩]),⟨hnew,by simp,hks,by rw[List.getElem?_append_left hyi];exact hyq,hfo⟩,by simp only;omega,?_⟩
           rw[h0]
           simp only[List.map_append,List.map_cons,List.map_nil,List.length_append,List.length_cons,List.length_nil,Nat.zero_add]
           simp only[seH,List.map_append,List.map_cons,List.map_nil]at hun
           exact prep_to rfl rfl (hk6 (k+1) i (ys.length+1)) hun rfl
          ·have hpos:0 < q.tx.length:=List.length_pos_iff.2 h0
           have hie:q.tx.isEmpty=false:=by cases hq2:q.tx with
            | nil=>exact absurd hq2 h0
            | cons a l=>rfl
           have hie2:(q.tx++[s]).isEmpty=false:=by cases q.tx<;>rfl
           have a0:=fun(t:Bool)=>appNil [MB.row 3 [prgAV g] 0,.row 2 (ys.map psAV) 0,.row 1 (ys.map fun r=>NV r.st) ys.length] (l:=q.tx) (t:=t) hpos (by omega)
           have a1:=fun(t:Bool)=>appI (H:=[MB.row 3 [prgAV g] 0,.row 2 (ys.map psAV) 0,.row 1 (ys.map fun r=>NV r.st) ys.length,.row 1 (q.tx.map I) 0]) (i:=3) (n:=q.tx.length) (rs:=q.tx) (l:=[s]) (t:=t) rfl rfl (by simp;omega)
           have hf:=fz_row (H:=[MB.row 3 [prgAV g] 0,.row 2 (ys.map psAV) 0,.row 1 (ys.map fun r=>NV r.st) ys.length,.row 1 ((q.tx++[s]).map I) 0]) (id:=3) (k:=1) (tot:=q.tx.length+1) (z:=0) (els:=(q.tx++[s]).map I) rfl (by simp) (plain_ints _)
           have hm:mark [MB.row 3 [prgAV g] 0,.row 2 (ys.map psAV) 0,.row 1 (ys.map fun r=>NV r.st) ys.length,.row 1 ((q.tx++[s]).map I) 0] 3 (q.tx.length+1)=[MB.row 3 [prgAV g] 0,.row 2 (ys.map psAV) 0,.row 1 (ys.map fun r=>NV r.st) ys.length,.row 1 ((q.tx++[s]).map I) (q.tx.length+1)]:=by
            unfold mark
            simp[getRow]
           rw[hm]at hf
           simp only[List.map_append,List.map_cons,List.map_nil,List.length_cons,List.length_nil,List.cons_append,List.nil_append,Nat.zero_add,List.set]at a0 a1 hf ap
           simp +contextual (disch:=omega) only[Tryz.f16,dd16,go_sem,simprocAttr,mu16,↓wrap_up,↓wrap_down,↓wrap_pred,↓wrap_sub_nat,hltk,hlti,hyq',hs',h28,hwk,nonneg_nat,h41,hbm,hie,List.map_nil,a0,a1,hf,ak,ap]
           repeat' (first|intro _|apply And.intro|(unfold dOk;kernel_rfl)|exact St.beq_refl _|(show altO _ _ _ _=true;kernel_rfl)|(show (_ || _)=true;kernel_rfl)|(show (_ && _)=true;kernel_rfl))
           refine⟨((k+1,ys.length),ys++[⟨n0+1,i,s,q.tx++[s]⟩]),⟨hnew,by simp,hks,by rw[List.getElem?_append_left hyi];exact hyq,hfo⟩,by simp only;omega,?_⟩
           simp only[List.map_append,List.map_cons,List.map_nil,List.length_append,List.length_cons,List.length_nil,Nat.zero_add,psAV,hie2]
           simp only[seH,List.map_append,List.map_cons,List.map_nil,psAV,hie2]at hun
           exact prep_to rfl rfl (hk6 (k+1) i (ys.length+1)) hun rfl
      ·have hltk:((k:Int) < ((syms.length:Nat):Int))=False:=eq_false (by omega)
       rw[List.drop_of_length_le (by omega),List.foldl_nil]at hfo
       simp +contextual (disch:=omega) only[Tryz.f16,dd16,go_sem,simprocAttr,evAppend,mu16,↓wrap_up,↓wrap_down,↓wrap_pred,↓wrap_sub_nat,hltk,hwi]
       refine⟨((i+1,z1),ys),⟨hy,hz1,Nat.succ_le_of_lt hyi,?_⟩,by simp only;omega,prep_to rfl rfl (hk5 (i+1) ys.length) (se_under g ys z1) rfl⟩
       simp only
       rw[show g.ins.length+1 - (i+1)=f by omega,hfo]
       exact hr
     ·exact prep_to rfl rfl (hk6 0 i xs.length) (se_under g xs z) rfl
  ·have hno:xs[i]?=none:=List.getElem?_eq_none (by omega)
   simp only[srch,hno]at hr
   have hlt:((i:Int) < ((xs.length:Nat):Int))=False:=eq_false (by omega)
   simp +contextual (disch:=omega) only[Tryz.f16,dd16,go_sem,simprocAttr,evAppend,mu16,↓wrap_up,↓wrap_down,↓wrap_pred,↓wrap_sub_nat,hlt]
   refine⟨_,⟨syms,_,_,hsy,hr.symm,rfl⟩,?_⟩
   have:=fz_ps (b:=false) (H:=[.row 3 [prgAV g] 0,.row 2 (xs.map psAV) 0,.row 1 (xs.map fun r=>NV r.st) z]) (id:=1) (xs:=xs) (n:=xs.length) (len:=xs.length) rfl rfl (Nat.le_refl _)
   rwa [List.take_length]at this
 ·exact prep_to rfl rfl (hk5 0 1) (se_under g xs0 0) rfl
end
section
open Go.Proofs Go.RowKit Go.IntWalk
set_option maxRecDepth 100000
set_option maxHeartbeats 16000000
abbrev rsAV (r:RS):AV:=.agg [NV r.st,I r.be,I r.sy]
theorem plain_rs (l:List RS):AV.plainL (l.map rsAV)=true:=by
 induction l with
 | nil=>rfl
 | cons a l ih=>simp[AV.plainL,AV.plain,ih]
abbrev entX (xs:List RS):List (AV×AV):=xs.map fun r=>(NV r.st,AV.bool true)
theorem find_ent (b:Nat):∀ xs:List RS,findMp (NV b) (entX xs)=if b∈xs.map (·.st) then some (.bool true) else none
 | []=>rfl
 | r::xs=>by
   have ih:=find_ent b xs
   simp only[entX,List.map_cons,findMp]at ih ⊢
   by_cases e:r.st=b
   ·subst e
    rw[if_pos (by simp[AV.beq])]
    simp
   ·rw[if_neg (by simp[AV.beq,e];omega),ih]
    simp[Ne.symm e]
theorem upd_ent (b:Nat):∀ xs:List RS,b ∉ xs.map (·.st)→updMp (NV b) (.bool true) (entX xs)=entX xs++[(NV b,.bool true)]
 | [],_=>rfl
 | r::xs,h=>by
   have h1:r.st≠b:=fun e=>h (by simp[e])
   have ih:=upd_ent b xs (fun hm=>h (by simp at hm ⊢;exact .inr hm))
   simp only[entX,List.map_cons,updMp]at ih ⊢
   rw[if_neg (by simp[AV.beq];omega),ih]
   rfl
theorem appRs {H:List MB} {i n:Nat} {rs:List RS} {a b c:Int} {t:Bool} (hi:getRow H i=some (3,rs.map rsAV,0)) (hn:rs.length=n) (hr:n+1≤4000000000) :
  evAppend Tryz.prog H 86 86 (.ms i 3 n 0 n) (.sl t [.agg [I a,I b,I c]])=some (.ms i 3 (n+1) 0 (n+1),H.set i (.row 3 (rs.map rsAV++[.agg [I a,I b,I c]]) 0)):=by
 have hs:srcElems Tryz.prog H 94 (.sl t [.agg [I a,I b,I c]])=some [.agg [I a,I b,I c]]:=rfl
 rw[evAppend_end (e:=94) (by kernel_rfl) (by kernel_rfl) (k:=3) (by kernel_rfl) (by_:=24) (by kernel_rfl) (ze:=.agg [I 0,I 0,I 0]) (by kernel_rfl) rfl (by omega) hs rfl hi (by rw[List.length_map];exact hn) (Nat.zero_le _) (room_ok (by simpa using hr) (by omega))]
 rfl
theorem ex_under (xs:List RS):[MB.row 3 (xs.map rsAV) 0,.mp (.int .i64) (entX xs)].all (MB.under 2)=true:=by
 have h1:=underL_plain 2 _ (plain_rs xs)
 have h2:MB.underE 2 (entX xs)=true:=by
  induction xs with
  | nil=>rfl
  | cons r xs ih=>
    have:=ih (underL_plain 2 _ (plain_rs xs))
    simp only[entX,List.map_cons,MB.underE,AV.under,this,Bool.and_self]
 simp[MB.under,h1,h2]
theorem fz_rs {id n len:Nat} {b:Bool} {H:List MB} {xs:List RS} (hr:getRow H id=some (3,xs.map rsAV,0)) (h1:xs.length=n) (h2:len≤n) :
  ∃ H',fz (.tup [.ms id 3 n 0 len,.bool b]) H=some (.tup [.sl false ((xs.take len).map rsAV),.bool b],H'):=by
 refine⟨mark H id len,?_⟩
 have h3:fzA (fzJ 6) (.ms id 3 n 0 len) H=some (.sl false ((xs.take len).map rsAV),mark H id len):=by
  have:=fzA_row' (n:=5) (len:=len) hr (by rw[List.length_map];exact h1) h2 (by rw[← List.map_take];exact plain_rs _)
  rwa [← List.map_take]at this
 simp only[fz,fzA_tup,fzL,h3]
 rfl
theorem XOk.take {ins:List Ins} {xs:List RS} (h:XOk ins xs) (n:Nat):XOk ins (xs.take n):=by
 refine⟨?_,fun r hr=>h.lt r (List.mem_of_mem_take hr),fun j r hr=>?_⟩
 ·rw[List.map_take];exact(List.take_sublist _ _).nodup h.nd
 ·rw[List.getElem?_take]at hr
  split at hr
  ·rename_i hj
   rcases h.bk j r hr with h1|⟨k,q,h1,h2,h3,h4⟩
   ·exact .inl h1
   ·exact .inr ⟨k,q,h1,h2,by rw[List.getElem?_take,if_pos (by omega)];exact h3,h4⟩
  ·cases hr
theorem XOk.addL {ins:List Ins} (hp:OkP ins) {xs:List RS} (h:XOk ins xs) {i n:Nat} {st:Nat} {q:RS} (hn:n∈(exS ins st).rd) (hi:xs[i]?=some q):XOk ins (Go.Ev.addL ins i q xs n):=by
 unfold Go.Ev.addL
 split
 ·exact h
 ·rename_i hne
  obtain⟨j',hj',h3,_⟩:=rd_op hp hn
  exact h.add (hp.sym n j' hj' h3) hne hi
def Explored (ins:List Ins) (xs:List RS) (fk:Bool):Prop:=XOk ins xs∧∀ syms,LeastTo ins ins.length syms→srch ins syms (ins.length+1) 0 xs0=(xs,fk)
theorem f36 {ins:List Ins} (h:OkP ins):∃ r:AV,(∃ xs fk,Explored ins xs fk∧r=.tup [.sl false (xs.map rsAV),.bool fk])∧∀ H,call Tryz.prog pol1 36 [.sl false (ins.map insAV)] H=some (r,H):=by
 have hl:=h.len
 refine call_runA Tryz.func36 rfl rfl rfl rfl rfl rfl (fun _=>rfl) (by simp[AV.plain,AV.plainL,plain_ints,plain_span,plain_ins,plain_prg]) ?_ ?_
 ·rintro r ⟨xs,fk,_,rfl⟩;simp[AV.plain,AV.plainL,plain_rs]
 simp +contextual (disch:=omega) only[Tryz.f36,dd36,go_sem,simprocAttr,evAppend,mu36,↓wrap_up,↓wrap_down,↓wrap_pred,↓wrap_sub_nat]
 have hk4:∀(i n:Nat),AV.underL 2 [.int .i64 i,.mpr 1,.ms 0 3 n 0 n,.sl false (ins.map insAV)]=true:=fun i n=>by
  have:=underL_plain 2 _ (plain_ins ins)
  simp[AV.underL,AV.under,this]
 refine W_for (σ:=Nat×List RS) (M:=(mskOf (pol1.mask 36) (pol1.gc 36) (pol1.acts 36) 0 4)) (by rfl) (fun s=>(⟨67,[(6,NV s.1),(5,.mpr 1),(4,.ms 0 3 s.2.length 0 s.2.length),(0,.sl false (ins.map insAV))],[.row 3 (s.2.map rsAV) 0,.mp (.int .i64) (entX s.2)]⟩:St))
  (fun s=>XOk ins s.2∧s.1≤s.2.length∧∀ syms,LeastTo ins ins.length syms→srch ins syms (ins.length+1 - s.1) s.1 s.2=srch ins syms (ins.length+1) 0 xs0) (fun s=>ins.length+1 - s.1) (0,xs0) ?_ ⟨xs0_ok h,Nat.zero_le _,fun _ _=>rfl⟩ _ ?_
 ·rintro⟨i,xs⟩ ⟨hx,hi,hr⟩
  simp only at hx hi hr ⊢
  have hxl:=hx.len
  obtain⟨f,hf⟩:∃ f,ins.length+1 - i=f+1:=⟨ins.length - i,by omega⟩
  rw[hf]at hr
  by_cases hil:i < xs.length
  ·obtain⟨q,hq⟩:∃ q,xs[i]?=some q:=⟨_,List.getElem?_eq_getElem hil⟩
   have hq':(xs.map rsAV)[i]?=some (rsAV q):=by simp[hq]
   have hqs:=hx.lt q (List.mem_of_getElem? hq)
   obtain⟨r75,⟨l,b,rfl,hb1,hb2⟩,h75⟩:=f75 h hqs
   have hlt:((i:Int) < ((xs.length:Nat):Int))=True:=eq_true (by omega)
   have hwi:IntKind.i64.wrap ((i:Int)+1)=((i+1:Nat):Int):=by rw[i64_in]<;>omega
   simp only[srch,hq]at hr
   cases b with
   | true=>
     simp only[if_pos (hb1 rfl)]at hr
     simp +contextual (disch:=omega) only[Tryz.f36,dd36,go_sem,simprocAttr,evAppend,mu36,↓wrap_up,↓wrap_down,↓wrap_pred,↓wrap_sub_nat,hlt,hq',h75,hwi,nonneg_nat]
     exact⟨_,⟨_,_,⟨hx.take (i+1),fun syms hs=>(hr syms hs).symm⟩,rfl⟩,fz_rs rfl rfl (by omega)⟩
   | false=>
     obtain⟨hnf,hperm,hsrt⟩:=hb2 rfl
     simp only[if_neg hnf]at hr
     simp +contextual (disch:=omega) only[Tryz.f36,dd36,go_sem,simprocAttr,evAppend,mu36,↓wrap_up,↓wrap_down,↓wrap_pred,↓wrap_sub_nat,hlt,hq',h75,hwi,nonneg_nat]
     have hll:=hperm.length_eq
     have hrl:=(rd_len h hqs).1
     have hk7:∀(j i n m:Nat),AV.underL 2 [.int .i64 j,.int .i64 m,.sl false (l.map NV),.int .i64 i,.mpr 1,.ms 0 3 n 0 n,.sl false (ins.map insAV)]=true:=fun j i n m=>by
      have h1:=underL_plain 2 _ (plain_ins ins)
      have h2:=underL_plain 2 _ (plain_nv l)
      simp[AV.underL,AV.under,h1,h2]
     refine W_for (σ:=Nat×List RS) (M:=(mskOf (pol1.mask 36) (pol1.gc 36) (pol1.acts 36) 0 10)) (by rfl) (fun s=>(⟨67,[(38,NV s.1),(37,NV l.length),(36,.sl false (l.map NV)),(6,NV i),(5,.mpr 1),(4,.ms 0 3 s.2.length 0 s.2.length),(0,.sl false (ins.map insAV))],[.row 3 (s.2.map rsAV) 0,.mp (.int .i64) (entX s.2)]⟩:St))
      (fun s=>XOk ins s.2∧s.1≤l.length∧s.2[i]?=some q∧(l.drop s.1).foldl (addL ins i q) s.2=l.foldl (addL ins i q) xs) (fun s=>l.length - s.1) (0,xs) ?_ ⟨hx,Nat.zero_le _,hq,rfl⟩ _ ?_
     ·rintro⟨j,ys⟩ ⟨hy,hj,hyq,hfo⟩
      simp only at hy hj hyq hfo ⊢
      have hyl:=hy.len
      have hyi:=(List.getElem?_eq_some_iff.1 hyq).1
      by_cases hjl:j < l.length
      ·obtain⟨n,hn⟩:∃ n,l[j]?=some n:=⟨_,List.getElem?_eq_getElem hjl⟩
       have hn':(l.map NV)[j]?=some (NV n):=by simp[hn]
       have hnr:n∈(exS ins q.st).rd:=hperm.mem_iff.1 (List.mem_of_getElem? hn)
       obtain⟨x,hx1,hop,hpos⟩:=rd_op h hnr
       have hx1':(ins.map insAV)[n]?=some (insAV x):=by simp[hx1]
       have hnl:=(List.getElem?_eq_some_iff.1 hx1).1
       obtain⟨p,m,hp⟩:∃ p m,x.set=p::m:=by cases hq:x.set with
        | nil=>rw[hq]at hpos;cases hpos
        | cons p m=>exact⟨p,m,rfl⟩
       have hk:keyI ins n=p.1:=by simp[keyI,hx1,hp]
       have hltj:((j:Int) < ((l.length:Nat):Int))=True:=eq_true (by omega)
       have hwn:IntKind.i64.wrap ((n:Int)+1)=((n+1:Nat):Int):=by rw[i64_in]<;>omega
       have hwj:IntKind.i64.wrap ((j:Int)+1)=((j+1:Nat):Int):=by rw[i64_in]<;>omega
       have hfi:=find_ent (n+1) ys
       rw[List.drop_eq_getElem_cons hjl,show l[j]=n from(List.getElem?_eq_some_iff.1 hn).2,List.foldl_cons]at hfo
       have hyn:=hy.addL h (i:=i) hnr hyq
       by_cases hbm:n+1∈ys.map (·.st)
       ·rw[if_pos hbm]at hfi
        have e:addL ins i q ys n=ys:=by unfold addL;rw[if_pos hbm]
        rw[e]at hfo
        simp +contextual (disch:=omega) only[Tryz.f36,dd36,go_sem,simprocAttr,evAppend,mu36,↓wrap_up,↓wrap_down,↓wrap_pred,↓wrap_sub_nat,hltj,hn',hwn,hwj,hfi,nonneg_nat]
        exact⟨(j+1,ys),⟨hy,hjl,hyq,hfo⟩,by simp only;omega,prep_to rfl rfl (hk7 (j+1) i ys.length l.length) (ex_under ys) rfl⟩
       ·rw[if_neg hbm]at hfi
        have e:addL ins i q ys n=ys++[⟨n+1,i,p.1,q.tx++[p.1]⟩]:=by unfold addL;rw[if_neg hbm,hk]
        rw[e]at hfo hyn
        have hup:=upd_ent (n+1) ys hbm
        have ap:=fun(t:Bool) (y:MB)=>appRs (H:=[MB.row 3 (ys.map rsAV) 0,y]) (i:=0) (n:=ys.length) (rs:=ys) (a:=((n+1:Nat):Int)) (b:=(i:Int)) (c:=p.1) (t:=t) rfl rfl (by omega)
        simp only[List.set]at ap
        simp +contextual (disch:=omega) only[Tryz.f36,dd36,go_sem,simprocAttr,mu36,↓wrap_up,↓wrap_down,↓wrap_pred,↓wrap_sub_nat,hltj,hn',hwn,hwj,hfi,hup,hx1',hp,ap,nonneg_nat]
        have hun:=ex_under (ys++[⟨n+1,i,p.1,q.tx++[p.1]⟩])
        simp only[entX,List.map_append,List.map_cons,List.map_nil]at hun
        refine⟨(j+1,ys++[⟨n+1,i,p.1,q.tx++[p.1]⟩]),⟨hyn,hjl,by rw[List.getElem?_append_left hyi];exact hyq,hfo⟩,by simp only;omega,?_⟩
        simp only[entX,List.map_append,List.map_cons,List.map_nil,List.length_append,List.length_cons,List.length_nil,Nat.zero_add]
        exact prep_to rfl rfl (hk7 (j+1) i (ys.length+1) l.length) hun rfl
      ·have hltj:((j:Int) < ((l.length:Nat):Int))=False:=eq_false (by omega)
       rw[List.drop_of_length_le (by omega),List.foldl_nil]at hfo
       simp +contextual (disch:=omega) only[Tryz.f36,dd36,go_sem,simprocAttr,evAppend,mu36,↓wrap_up,↓wrap_down,↓wrap_pred,↓wrap_sub_nat,hltj,hwi]
       refine⟨(i+1,ys),⟨hy,Nat.succ_le_of_lt hyi,fun syms hs=>?_⟩,by simp only;omega,prep_to rfl rfl (hk4 (i+1) ys.length) (ex_under ys) rfl⟩
       simp only
       rw[show ins.length+1 - (i+1)=f by omega,hfo,← adds_eq h i q hnf syms l xs hs.srt hsrt (hperm.nodup_iff.2 (rd_nodup h hqs)) (fun n hn=>?_) (fun n hn hnl=>absurd (hperm.mem_iff.2 hn) hnl)]
       ·exact hr syms hs
       ·have hnr:=hperm.mem_iff.1 hn
        obtain⟨x,hx1,hop,hpos⟩:=rd_op h hnr
        exact⟨hnr,hs.has n x (List.getElem?_eq_some_iff.1 hx1).1 hx1 hop hpos⟩
     ·exact prep_to rfl rfl (hk7 0 i xs.length l.length) (ex_under xs) rfl
  ·have hno:xs[i]?=none:=List.getElem?_eq_none (by omega)
   simp only[srch,hno]at hr
   have hlt:((i:Int) < ((xs.length:Nat):Int))=False:=eq_false (by omega)
   simp +contextual (disch:=omega) only[Tryz.f36,dd36,go_sem,simprocAttr,evAppend,mu36,↓wrap_up,↓wrap_down,↓wrap_pred,↓wrap_sub_nat,hlt]
   refine⟨_,⟨_,_,⟨hx,fun syms hs=>(hr syms hs).symm⟩,rfl⟩,?_⟩
   have:=fz_rs (b:=false) (H:=[.row 3 (xs.map rsAV) 0,.mp (.int .i64) (entX xs)]) (id:=0) (xs:=xs) (n:=xs.length) (len:=xs.length) rfl rfl (Nat.le_refl _)
   rwa [List.take_length]at this
 ·exact prep_to rfl rfl (hk4 0 1) (ex_under xs0) rfl
end
theorem spOk_of {l:List (Int×Int)} (h:refSpans l=0):SpOk l∧l.length≤64:=by
 unfold refSpans at h
 split at h
 ·omega
 ·rename_i hb
  split at h
  ·omega
  ·have hb':∀ k,k < l.length→badAt l k=false:=fun k hk=>by
    refine Bool.eq_false_iff.2 fun hc=>hb (List.any_eq_true.2 ⟨k,List.mem_range.2 hk,hc⟩)
   refine⟨⟨fun p hp=>?_,?_⟩,by omega⟩
   ·obtain⟨k,hk⟩:=List.mem_iff_getElem?.1 hp
    have:=hb' k (List.getElem?_eq_some_iff.1 hk).1
    simp[badAt,hk]at this
    omega
   ·have hadj:∀ k p q,l[k]?=some p→l[k+1]?=some q→p.2 < q.1:=fun k p q hp hq=>by
     have:=hb' (k+1) (List.getElem?_eq_some_iff.1 hq).1
     simp[badAt,hp,hq]at this
     omega
    have hle:∀(k:Nat) p,l[k]?=some p→p.1≤p.2:=fun k p hp=>by
     have:=hb' k (List.getElem?_eq_some_iff.1 hp).1
     simp[badAt,hp]at this
     omega
    have hall:∀(d k:Nat) p q,l[k]?=some p→l[k+d+1]?=some q→p.2 < q.1:=by
     intro d
     induction d with
     | zero=>exact fun k p q hp hq=>hadj k p q hp hq
     | succ d ih=>
       intro k p q hp hq
       obtain⟨r,hr⟩:∃ r,l[k+d+1]?=some r:=⟨_,List.getElem?_eq_getElem (by have:=(List.getElem?_eq_some_iff.1 hq).1;omega)⟩
       have h1:=ih k p r hp hr
       have h2:=hadj (k+d+1) r q hr hq
       have h3:=hle _ r hr
       omega
    refine List.pairwise_iff_getElem.2 fun i j hi hj hij=>?_
    obtain⟨d,rfl⟩:∃ d,j=i+d+1:=⟨j - i - 1,by omega⟩
    exact hall d i _ _ (List.getElem?_eq_getElem hi) (List.getElem?_eq_getElem hj)
theorem okP_of {g:Prg} (h:acceptG g=0):OkP g.ins:=by
 unfold acceptG at h
 split at h
 ·rename_i h1;exact absurd h h1
 ·rename_i h1
  have h1':validG g=0:=Classical.byContradiction fun e=>h1 e
  split at h
  ·omega
  ·rename_i h5
   unfold validG at h1'
   split at h1'
   ·omega
   ·rename_i hl
    split at h1'
    ·omega
    ·rename_i hc
     split at h1'
     ·rename_i hv
      simp only[Bool.and_eq_true,List.all_eq_true]at hv
      obtain⟨hv,hlast⟩:=hv
      have hop5:∀ i∈g.ins,i.op≠5:=fun i hi e=>h5 (List.any_eq_true.2 ⟨i,hi,by simp[e]⟩)
      have hnl:∀ n i,g.ins[n]?=some i→i.op=1∨i.op=4→n+1 < g.ins.length:=fun n i hi ho=>by
       have hn:=(List.getElem?_eq_some_iff.1 hi).1
       refine Classical.byContradiction fun hne=>?_
       have e:g.ins.length - 1=n:=by omega
       unfold lastGood at hlast
       rw[e,hi]at hlast
       simp only[Bool.or_eq_true,beq_iff_eq]at hlast
       omega
      have hops:∀ i∈g.ins,i.op=0∨i.op=1∨i.op=2∨i.op=3∨i.op=4:=fun i hi=>by
       have:=hv i hi
       have h6:=hop5 i hi
       simp only[okIns,Bool.and_eq_true,Bool.or_eq_true,beq_iff_eq,decide_eq_true_eq]at this
       omega
      refine⟨by omega,by omega,hops,?_,fun n i hi ho=>hnl n i hi (.inl ho),?_⟩
      ·intro n i hi
       have:=hv i (List.mem_of_getElem? hi)
       simp only[okIns,Bool.and_eq_true,Bool.or_eq_true,beq_iff_eq,decide_eq_true_eq]at this
       refine⟨fun ho=>?_,fun ho=>?_,fun ho=>?_⟩
       ·omega
       ·omega
       ·have:=hnl n i hi (.inr ho)
        omega
      ·intro i hi
       have:=hv i hi
       simp only[okIns,Bool.and_eq_true,Bool.or_eq_true,beq_iff_eq,decide_eq_true_eq]at this
       by_cases ho:i.op=1
       ·exact spOk_of (by omega)
       ·have:i.set=[]:=List.length_eq_zero_iff.1 (by omega)
        rw[this]
        exact⟨⟨fun p hp=>by simp at hp,List.Pairwise.nil⟩,by simp⟩
     ·omega
end Go.Ev
namespace Go.Ev
attribute [local go_sem] W_block evBuild splice tySzE List.head?_drop Nat.mul_one sameAt_zero sameAt_two sameAt_three sameAt_four sameAt_five room_ok
section
open Go.Proofs Go.RowKit Go.IntWalk
set_option maxRecDepth 100000
set_option maxHeartbeats 16000000
structure RevTo (l m:List Int) (i:Nat):Prop where
 len:m.length=l.length
 low:∀ k,k < i→m[k]?=l[l.length - 1 - k]?
 mid:∀ k,i≤k→k+i < l.length→m[k]?=l[k]?
 high:∀ k,k < l.length→l.length≤k+i→m[k]?=l[l.length - 1 - k]?
theorem RevTo.step {l m:List Int} {i:Nat} (h:RevTo l m i) (hi:i+i+1 < l.length) {x y:Int} (hx:l[i]?=some x) (hy:l[l.length - 1 - i]?=some y):RevTo l ((m.set i y).set (l.length - 1 - i) x) (i+1):=by
 have hl:=h.len
 refine⟨by simp[hl],fun k hk=>?_,fun k hk hk2=>?_,fun k hk hk2=>?_⟩
 ·rw[List.getElem?_set_ne (by omega)]
  rcases Nat.lt_succ_iff_lt_or_eq.1 hk with h1|rfl
  ·rw[List.getElem?_set_ne (by omega)];exact h.low k h1
  ·rw[List.getElem?_set_self (by omega),hy]
 ·rw[List.getElem?_set_ne (by omega),List.getElem?_set_ne (by omega)]
  exact h.mid k (by omega) (by omega)
 ·by_cases e:k=l.length - 1 - i
  ·subst e
   rw[List.getElem?_set_self (by simp;omega),show l.length - 1 - (l.length - 1 - i)=i by omega,hx]
  ·rw[List.getElem?_set_ne (by omega),List.getElem?_set_ne (by omega)]
   exact h.high k hk (by omega)
theorem RevTo.done {l m:List Int} {i:Nat} (h:RevTo l m i) (hi:l.length≤i+i+1):m=l.reverse:=by
 have hl:=h.len
 refine List.ext_getElem? fun k=>?_
 by_cases hk:k < l.length
 ·rw[List.getElem?_reverse hk]
  by_cases h1:k < i
  ·exact h.low k h1
  ·by_cases h2:l.length≤k+i
   ·exact h.high k hk h2
   ·have:l.length - 1 - k=k:=by omega
    rw[this]
    exact h.mid k (by omega) (by omega)
 ·rw[List.getElem?_eq_none (by omega),List.getElem?_eq_none (by simp;omega)]
theorem f39 (g:Prg) (l:List Int) (hl:l.length≤1000000):call Tryz.prog pol1 39 [.ms 1 1 l.length 0 l.length] [.row 3 [prgAV g] 0,.row 1 (l.map I) 0]=some (.tup [],[.row 3 [prgAV g] 0,.row 1 (l.reverse.map I) 0]):=by
 refine call_run2 (pol:=pol1) Tryz.func39 rfl rfl rfl rfl (frzArgs_mix _ _ 0 rfl) ?_
 have hw0:IntKind.i64.wrap (((l.length:Nat):Int) - 1)=((l.length:Nat):Int) - 1:=by rw[i64_in]<;>omega
 simp +contextual (disch:=omega) only[Tryz.f39,dd39,go_sem,simprocAttr,evAppend,mu39,↓wrap_up,↓wrap_down,↓wrap_pred,↓wrap_sub_nat,hw0]
 refine W_for (σ:=Nat×List Int) (M:=(mskOf (pol1.mask 39) (pol1.gc 39) (pol1.acts 39) 0 1)) (by rfl) (fun s=>(⟨28,[(3,I (((l.length:Nat):Int) - 1 - s.1)),(2,NV s.1),(0,.ms 1 1 l.length 0 l.length)],[.row 3 [prgAV g] 0,.row 1 (s.2.map I) 0]⟩:St)) (fun s=>s.1≤l.length∧RevTo l s.2 s.1) (fun s=>l.length - s.1) (0,l) ?_ ⟨Nat.zero_le _,rfl,fun k hk=>by omega,fun k _ _=>rfl,fun k h1 h2=>by omega⟩ _ ?_
 ·rintro⟨i,m⟩ ⟨hi,hR⟩
  simp only at hi hR ⊢
  have hml:=hR.len
  by_cases hlt:i+i+1 < l.length
  ·obtain⟨x,hx⟩:∃ x,l[i]?=some x:=⟨_,List.getElem?_eq_getElem (by omega)⟩
   obtain⟨y,hy⟩:∃ y,l[l.length - 1 - i]?=some y:=⟨_,List.getElem?_eq_getElem (by omega)⟩
   have hx':(m.map I)[i]?=some (I x):=by simp[hR.mid i (Nat.le_refl _) (by omega),hx]
   have hy':(m.map I)[l.length - 1 - i]?=some (I y):=by simp[hR.mid (l.length - 1 - i) (by omega) (by omega),hy]
   have hje:((l.length:Nat):Int) - 1 - (i:Int)=((l.length - 1 - i:Nat):Int):=by omega
   have hc:((i:Int) < ((l.length - 1 - i:Nat):Int))=True:=eq_true (by omega)
   have hb1:((i:Int) < ((l.length:Nat):Int))=True:=eq_true (by omega)
   have hb2:(((l.length - 1 - i:Nat):Int) < ((l.length:Nat):Int))=True:=eq_true (by omega)
   have hwi:IntKind.i64.wrap ((i:Int)+1)=((i+1:Nat):Int):=by rw[i64_in]<;>omega
   have hwj:IntKind.i64.wrap (((l.length - 1 - i:Nat):Int) - 1)=((l.length:Nat):Int) - 1 - ((i+1:Nat):Int):=by rw[i64_in]<;>omega
   have hgs:((m.map I).set i (I y))[l.length - 1 - i]?=some (I y):=by rw[List.getElem?_set_ne (by omega)];exact hy'
   have hsl:((m.map I).set i (I y)).length=l.length:=by simp[hml]
   rw[hje]
   simp +contextual (disch:=omega) only[Tryz.f39,dd39,go_sem,simprocAttr,evAppend,mu39,↓wrap_up,↓wrap_down,↓wrap_pred,↓wrap_sub_nat,hx',hy',hc,hb1,hb2,hwi,hwj,nonneg_nat,hml,hgs,hsl]
   repeat' (first|intro _|apply And.intro|(unfold dOk;kernel_rfl)|exact St.beq_refl _|(show altO _ _ _ _=true;kernel_rfl)|(show (_ || _)=true;kernel_rfl)|(show (_ && _)=true;kernel_rfl))
   refine⟨(i+1,(m.set i y).set (l.length - 1 - i) x),⟨by simp only;omega,hR.step hlt hx hy⟩,by simp only;omega,?_⟩
   simp only[List.map_set]
   rw[show ((l.length:Nat):Int) - 1 - ((i+1:Nat):Int)=((l.length - 1 - i - 1:Nat):Int) by omega]
   rfl
  ·have hc:((i:Int) < ((l.length:Nat):Int) - 1 - (i:Int))=False:=eq_false (by omega)
   simp +contextual (disch:=omega) only[Tryz.f39,dd39,go_sem,simprocAttr,evAppend,mu39,↓wrap_up,↓wrap_down,↓wrap_pred,↓wrap_sub_nat,hc]
   rw[hR.done (by omega)]
   have h1:=underL_plain 2 _ (plain_ints l.reverse)
   refine retPol_keep rfl rfl rfl ?_ rfl
   simp only[keptOk,MB.beq_refl,MB.under,h1,Bool.or_true,Bool.true_or,Bool.and_true,Bool.true_and,List.length_cons,List.length_nil]
 ·rw[show (((l.length:Nat):Int) - 1 - (((0,l):Nat×List Int).1:Int))=((l.length:Nat):Int) - 1 by simp]
  rfl
theorem g15 (g:Prg) (hb:PrgB g) (H:List MB):call Tryz.prog pol1 15 [prgAV g] H=some (I (acceptG g),H):=by
 have hv:=f29 g hb
 have hl:=hb.1
 unfold acceptG
 refine call_run Tryz.func15 rfl rfl rfl rfl rfl rfl (fun _=>rfl) (by simp[AV.plain,AV.plainL,plain_ints,plain_span,plain_ins,plain_prg]) (by simp[AV.plain,AV.plainL,plain_ints,plain_span,plain_ins,plain_prg]) ?_ H
 by_cases h1:validG g≠0
 ·rw[if_pos h1]
  simp +contextual (disch:=omega) only[Tryz.f15,dd15,go_sem,simprocAttr,evAppend,mu15,↓wrap_up,↓wrap_down,↓wrap_pred,↓wrap_sub_nat,hv,h1]
  exact⟨_,rfl⟩
 ·rw[if_neg h1]
  have h1':validG g=0:=Classical.byContradiction h1
  simp +contextual (disch:=omega) only[Tryz.f15,dd15,go_sem,simprocAttr,evAppend,mu15,↓wrap_up,↓wrap_down,↓wrap_pred,↓wrap_sub_nat,hv,h1']
  have hu:[MB.row 3 [prgAV g] 0].all (MB.under 1)=true:=by
   have h1:=underL_plain 1 _ (plain_ins g.ins)
   simp[MB.under,AV.underL,AV.under,h1]
  refine W_count (M:=(mskOf (pol1.mask 15) (pol1.gc 15) (pol1.acts 15) 0 5)) (by rfl) g.ins.length (fun i=>(⟨24,[(4,NV i),(1,.rf 0 1 0 0)],[.row 3 [prgAV g] 0]⟩:St)) (fun i=>∀ k x,k < i→g.ins[k]?=some x→x.op≠5) ?_ ?_ (fun k p h=>by omega) _ rfl
  ·intro i hi hg
   obtain⟨x,hx⟩:∃ x,g.ins[i]?=some x:=⟨_,List.getElem?_eq_getElem hi⟩
   have hx':(g.ins.map insAV)[i]?=some (insAV x):=by simp[hx]
   have hlt:((i:Int) < ((g.ins.length:Nat):Int))=True:=eq_true (by omega)
   have hwi:IntKind.i64.wrap ((i:Int)+1)=((i+1:Nat):Int):=by rw[i64_in]<;>omega
   by_cases h5:x.op=5
   ·have:g.ins.any (fun i=>i.op == 5)=true:=List.any_eq_true.2 ⟨x,List.mem_of_getElem? hx,by simp[h5]⟩
    rw[if_pos this]
    simp +contextual (disch:=omega) only[Tryz.f15,dd15,go_sem,simprocAttr,evAppend,mu15,↓wrap_up,↓wrap_down,↓wrap_pred,↓wrap_sub_nat,hx',hlt,hwi,nonneg_nat,h5]
    exact⟨_,rfl⟩
   ·simp +contextual (disch:=omega) only[Tryz.f15,dd15,go_sem,simprocAttr,evAppend,mu15,↓wrap_up,↓wrap_down,↓wrap_pred,↓wrap_sub_nat,hx',hlt,hwi,nonneg_nat,h5]
    refine⟨fun k y hk hy=>?_,rfl⟩
    rcases Nat.lt_succ_iff_lt_or_eq.1 hk with hlt|he
    ·exact hg k y hlt hy
    ·rw[he,hx]at hy;cases hy;exact h5
  ·intro hg
   have:¬ g.ins.any (fun i=>i.op == 5)=true:=fun hc=>by
    obtain⟨x,hx,h5⟩:=List.any_eq_true.1 hc
    obtain⟨k,hk⟩:=List.mem_iff_getElem?.1 hx
    exact hg k x (List.getElem?_eq_some_iff.1 hk).1 hk (by simpa using h5)
   rw[if_neg this]
   simp +contextual (disch:=omega) only[Tryz.f15,dd15,go_sem,simprocAttr,evAppend,mu15,↓wrap_up,↓wrap_down,↓wrap_pred,↓wrap_sub_nat]
   exact⟨_,rfl⟩
theorem g17 (ins:List Ins) (caps n:Int) (H:List MB):call Tryz.prog pol1 17 [.pt [.sl false (ins.map insAV),I caps,I n]] H=some (I n,H):=by
 refine call_run Tryz.func17 rfl rfl rfl rfl rfl rfl (fun _=>rfl) (by simp[AV.plain,AV.plainL,plain_ints,plain_span,plain_ins,plain_prg]) (by simp[AV.plain,AV.plainL,plain_ints,plain_span,plain_ins,plain_prg]) ?_ H
 simp +contextual (disch:=omega) only[Tryz.f17,dd17,go_sem,simprocAttr,evAppend,mu17,↓wrap_up,↓wrap_down,↓wrap_pred,↓wrap_sub_nat]
 exact⟨_,rfl⟩
theorem g18 (a b:List Int) (ha:a.length≤1000000) (hb:b.length≤1000000) (H:List MB):call Tryz.prog pol1 18 [.sl false (a.map I),.sl false (b.map I)] H=some (.bool (decide (a=b)),H):=by
 refine call_run Tryz.func18 rfl rfl rfl rfl rfl rfl (fun _=>rfl) (by simp[AV.plain,AV.plainL,plain_ints,plain_span,plain_ins,plain_prg]) (by simp[AV.plain,AV.plainL,plain_ints,plain_span,plain_ins,plain_prg]) ?_ H
 simp +contextual (disch:=omega) only[Tryz.f18,dd18,go_sem,simprocAttr,evAppend,mu18,↓wrap_up,↓wrap_down,↓wrap_pred,↓wrap_sub_nat]
 refine⟨fun h=>?_,fun h=>?_⟩
 ·have:a≠b:=fun e=>h (by rw[e])
  simp only[this,decide_false]
  exact⟨_,rfl⟩
 ·have hab:a.length=b.length:=by omega
  refine W_count (M:=(mskOf (pol1.mask 18) (pol1.gc 18) (pol1.acts 18) 0 4)) (by rfl) a.length (fun i=>(⟨26,[(5,NV i),(1,.sl false (b.map I)),(0,.sl false (a.map I))],[]⟩:St)) (fun i=>∀ k,k < i→a[k]?=b[k]?) ?_ ?_ (fun k h=>by omega) _ (by first|rfl|(refine prep_cut rfl (by rfl) (by rfl) (by rfl) ?_ ?_<;>simp[AV.underL,AV.under,MB.under,underL_plain,under_plain,plain_ints,plain_span,plain_ins,plain_prg,-List.map_take]))
  ·intro i hi hg
   obtain⟨x,hx⟩:∃ x,a[i]?=some x:=⟨_,List.getElem?_eq_getElem hi⟩
   obtain⟨y,hy⟩:∃ x,b[i]?=some x:=⟨_,List.getElem?_eq_getElem (by omega)⟩
   have hx':(a.map I)[i]?=some (I x):=by simp[hx]
   have hy':(b.map I)[i]?=some (I y):=by simp[hy]
   have hlt:((i:Int) < ((a.length:Nat):Int))=True:=eq_true (by omega)
   have hwi:IntKind.i64.wrap ((i:Int)+1)=((i+1:Nat):Int):=by rw[i64_in]<;>omega
   by_cases e:x=y
   ·simp +contextual (disch:=omega) only[Tryz.f18,dd18,go_sem,simprocAttr,evAppend,mu18,↓wrap_up,↓wrap_down,↓wrap_pred,↓wrap_sub_nat,hx',hy',hlt,hwi,nonneg_nat,e]
    refine⟨(by unfold dOk;kernel_rfl),fun k hk=>?_,(by first|rfl|(refine prep_cut rfl (by rfl) (by rfl) (by rfl) ?_ ?_<;>simp[AV.underL,AV.under,MB.under,underL_plain,under_plain,plain_ints,plain_span,plain_ins,plain_prg,-List.map_take]))⟩
    rcases Nat.lt_succ_iff_lt_or_eq.1 hk with hlt|he
    ·exact hg k hlt
    ·rw[he,hx,hy,e]
   ·have hne:a≠b:=fun h=>by rw[h,hy]at hx;cases hx;exact e rfl
    simp +contextual (disch:=omega) only[Tryz.f18,dd18,go_sem,simprocAttr,evAppend,mu18,↓wrap_up,↓wrap_down,↓wrap_pred,↓wrap_sub_nat,hx',hy',hlt,hwi,nonneg_nat,e]
    refine⟨(by unfold dOk;kernel_rfl),?_⟩
    simp only[hne,decide_false]
    exact⟨_,rfl⟩
  ·intro hg
   have he:a=b:=List.ext_getElem? fun k=>by
    by_cases hk:k < a.length
    ·exact hg k hk
    ·rw[List.getElem?_eq_none (by omega),List.getElem?_eq_none (by omega)]
   simp +contextual (disch:=omega) only[Tryz.f18,dd18,go_sem,simprocAttr,evAppend,mu18,↓wrap_up,↓wrap_down,↓wrap_pred,↓wrap_sub_nat]
   simp only[he,decide_true]
   exact⟨_,rfl⟩
theorem srch_pos {ins:List Ins} {syms:List Int}:∀(f i:Nat) (ys xs:List RS),srch ins syms f i ys=(xs,true)→0 < xs.length
 | 0,i,ys,xs,h=>by simp[srch]at h
 | f+1,i,ys,xs,h=>by
   unfold srch at h
   split at h
   ·simp at h
   ·rename_i r hr
    split at h
    ·simp only[Prod.mk.injEq,and_true]at h
     rw[← h,List.length_take]
     have:=(List.getElem?_eq_some_iff.1 hr).1
     omega
    ·exact srch_pos f _ _ _ h
def lastTx (xs:List RS):List Int:=match xs[xs.length - 1]? with
 | some r=>r.tx
 | none=>[]
theorem g14 (g:Prg) (hb:PrgB g) (ha:acceptG g=0):∃ r:AV,(∃ xs fk,Explored g.ins xs fk∧r=.tup [.sl false ((if fk then lastTx xs else []).map I),.bool fk,I 0])∧∀ H,call Tryz.prog pol1 14 [prgAV g] H=some (r,H):=by
 have h35:=f35 g hb
 rw[ha]at h35
 have h:=okP_of ha
 obtain⟨_,⟨syms,_,hsy⟩,_⟩:=g40 h
 obtain⟨r36,⟨xs,fk,hex,rfl⟩,h36⟩:=f36 h
 have hxl:=hex.1.len
 have hl:=h.len
 refine call_runA Tryz.func14 rfl rfl rfl rfl rfl rfl (fun _=>rfl) (by simp[AV.plain,AV.plainL,plain_ints,plain_span,plain_ins,plain_prg]) ?_ ?_
 ·rintro r ⟨xs,fk,_,rfl⟩;simp[AV.plain,AV.plainL,plain_ints]
 cases fk with
 | false=>
   simp +contextual (disch:=omega) only[Tryz.f14,dd14,go_sem,simprocAttr,evAppend,mu14,↓wrap_up,↓wrap_down,↓wrap_pred,↓wrap_sub_nat,h35,h36]
   exact⟨_,⟨xs,false,hex,rfl⟩,_,rfl⟩
 | true=>
   have hpos:=srch_pos _ _ _ _ (hex.2 syms hsy)
   have hw0:IntKind.i64.wrap (((xs.length:Nat):Int) - 1)=((xs.length - 1:Nat):Int):=by rw[i64_in]<;>omega
   simp +contextual (disch:=omega) only[Tryz.f14,dd14,go_sem,simprocAttr,evAppend,mu14,↓wrap_up,↓wrap_down,↓wrap_pred,↓wrap_sub_nat,h35,h36,hw0]
   obtain⟨q,hq⟩:∃ q,xs[xs.length - 1]?=some q:=⟨_,List.getElem?_eq_getElem (by omega)⟩
   have hlt:lastTx xs=q.tx:=by simp[lastTx,hq]
   have hqt:=hex.1.txl _ q hq
   have hu:∀ acc:List Int,[MB.row 3 [prgAV g] 0,.row 1 (acc.map I) 0].all (MB.under 2)=true:=fun acc=>by
    have h1:=underL_plain 2 _ (plain_ins g.ins)
    have h2:=underL_plain 2 _ (plain_ints acc)
    simp[MB.under,AV.underL,AV.under,h1,h2]
   have hk9:∀(j:Int) (n:Nat),AV.underL 2 [.int .i64 j,.ms 1 1 n 0 n,.sl false (xs.map rsAV)]=true:=fun j n=>by
    have:=underL_plain 2 _ (plain_rs xs)
    simp[AV.underL,AV.under,this]
   refine W_for (σ:=Nat×List Int) (M:=(mskOf (pol1.mask 14) (pol1.gc 14) (pol1.acts 14) 0 9)) (by rfl) (fun s=>(⟨48,[(9,NV s.1),(8,.ms 1 1 s.2.length 0 s.2.length),(6,.sl false (xs.map rsAV))],[.row 3 [prgAV g] 0,.row 1 (s.2.map I) 0]⟩:St)) (fun s=>∃ r,xs[s.1]?=some r∧s.2++r.tx.reverse=q.tx.reverse) (fun s=>s.1) (xs.length - 1,[]) ?_ ⟨q,hq,rfl⟩ _ ?_
   ·rintro⟨j,acc⟩ ⟨r,hr,hacc⟩
    simp only at hr hacc ⊢
    have hr':(xs.map rsAV)[j]?=some (rsAV r):=by simp[hr]
    have hjl:=(List.getElem?_eq_some_iff.1 hr).1
    have hltj:((j:Int) < ((xs.length:Nat):Int))=True:=eq_true (by omega)
    have hal:acc.length≤100000:=by
     have:=congrArg List.length hacc
     simp at this
     omega
    rcases hex.1.bk j r hr with ⟨h1,h2⟩|⟨k,r2,h1,h2,h3,h4⟩
    ·rw[h2,List.reverse_nil,List.append_nil]at hacc
     have h39:=f39 g acc (by omega)
     simp +contextual (disch:=omega) only[Tryz.f14,dd14,go_sem,simprocAttr,evAppend,mu14,↓wrap_up,↓wrap_down,↓wrap_pred,↓wrap_sub_nat,hr',hltj,nonneg_nat,h1,h39]
     refine⟨_,⟨xs,true,hex,rfl⟩,?_⟩
     rw[if_pos rfl,hlt]
     have he:acc.reverse=q.tx:=by rw[hacc,List.reverse_reverse]
     have h2:fzA (fzJ 6) (.ms 1 1 acc.length 0 acc.length) [.row 3 [prgAV g] 0,.row 1 (acc.reverse.map I) 0]=some (.sl false (acc.reverse.map I),_):=fzA_row (n:=5) rfl (by simp) (plain_ints _)
     refine⟨mark [.row 3 [prgAV g] 0,.row 1 (acc.reverse.map I) 0] 1 acc.length,?_⟩
     rw[← he]
     simp only[fz,fzA_tup,fzL,h2]
     rfl
    ·have ap:=fun(t:Bool)=>appI (H:=[MB.row 3 [prgAV g] 0,.row 1 (acc.map I) 0]) (i:=1) (n:=acc.length) (rs:=acc) (l:=[r.sy]) (t:=t) rfl rfl (by simp;omega)
     simp only[List.set,List.map_append,List.map_cons,List.map_nil,List.length_cons,List.length_nil,Nat.zero_add]at ap
     have hge:((0:Int)≤((k:Nat):Int))=True:=eq_true (by omega)
     simp +contextual (disch:=omega) only[Tryz.f14,dd14,go_sem,simprocAttr,mu14,↓wrap_up,↓wrap_down,↓wrap_pred,↓wrap_sub_nat,hr',hltj,nonneg_nat,h2,hge,ap]
     have hun:=hu (acc++[r.sy])
     simp only[List.map_append,List.map_cons,List.map_nil]at hun
     refine⟨(k,acc++[r.sy]),⟨r2,h3,?_⟩,h1,?_⟩
     ·simp only
      rw[h4]at hacc
      rw[← hacc]
      simp
     ·simp only[List.map_append,List.map_cons,List.map_nil,List.length_append,List.length_cons,List.length_nil,Nat.zero_add]
      exact prep_to rfl rfl (hk9 _ _) hun rfl
   ·exact prep_to rfl rfl (hk9 _ 0) (hu []) rfl
end
end Go.Ev
