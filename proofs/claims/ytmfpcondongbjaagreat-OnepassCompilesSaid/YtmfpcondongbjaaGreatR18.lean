/- Functions of the program, each with what it computes; no further conditions. -/
import Derived.Test.YtmfpcondongbjaaGreatR07
import Derived.Test.YtmfpcondongbjaaGreatR17
import Derived.Test.YtmfpcondongbjaaGreatR14
import Derived.Test.YtmfpcondongbjaaGreatR08
set_option linter.unusedVariables false
set_option linter.unusedSimpArgs false
namespace Go.Ev
attribute [local go_sem] W_block evAppend evBuild splice
section
open Go.Proofs Go.RowKit Go.IntWalk
set_option maxRecDepth 100000
set_option maxHeartbeats 4000000
structure PrgN (g:Prg) (a b:Nat):Prop where
 len:g.ins.length≤a
 sets:∀ i∈g.ins,i.set.length≤b
 caps:In64 g.caps
theorem get5 (a b c d e:Int) {j:Nat} (h:j < 5):([I a,I b,I c,I d,I e]:List AV)[j]?=some (I ([a,b,c,d,e].getD j 0)):=by
 rcases j with _|_|_|_|_|j
 all_goals first|rfl|omega
theorem get4 (a b c d:Int) {j:Nat} (h:j < 4):([I a,I b,I c,I d]:List AV)[j]?=some (I ([a,b,c,d].getD j 0)):=by
 rcases j with _|_|_|_|j
 all_goals first|rfl|omega
theorem fz_ms {id m tot:Nat} {ins:List Ins} {caps:Int} {runes:Bool} {H:List MB} (hr:getRow H id=some (5,ins.map insAV,0)) (hn:tot=ins.length) (hm:m≤tot) :
  ∃ H',fz (.agg [.ms id 5 tot 0 m,I caps,.bool runes]) H=some (.agg [.sl false ((ins.take m).map insAV),I caps,.bool runes],H'):=by
 subst hn
 simp only[fz,fzA_agg,fzL]
 rw[fzA_ms (n:=5) (k:=5) (ys:=(ins.take m).map insAV) hr (by simp) (by omega) (by
  rw[List.drop_zero,← List.map_take];exact fzL_plain _ _ _ (plain_ins _))]
 exact⟨_,rfl⟩
theorem all_ins5 (l:List Ins):((l.map insAV).all fun y=>decide (y.cells.length=5) && y.cells.all AV.ok)=true:=by
 simp only[List.all_eq_true,List.mem_map,Bool.and_eq_true,decide_eq_true_eq]
 rintro _ ⟨i,_,rfl⟩
 exact⟨rfl,fun x hx=>by
  simp only[AV.cells,List.mem_cons,List.not_mem_nil,or_false]at hx
  rcases hx with rfl|rfl|rfl|rfl|rfl<;>rfl⟩
theorem fz_all {id tot:Nat} {ins:List Ins} {caps:Int} {runes:Bool} {H:List MB} (hr:getRow H id=some (5,ins.map insAV,0)) (hn:tot=ins.length) :
  ∃ H',fz (.agg [.ms id 5 tot 0 tot,I caps,.bool runes]) H=some (prgAV ⟨ins,caps,runes⟩,H'):=by
 obtain⟨H',h⟩:=fz_ms (caps:=caps) (runes:=runes) hr hn (Nat.le_refl _)
 rw[hn,List.take_length]at h
 rw[hn]
 exact⟨H',h⟩
theorem fzL_append {j:List AV→List MB→Option (List AV×List MB)} (ys:List AV):∀(xs:List AV) (H:List MB),fzL j (xs++ys) H=(match fzL j xs H with
  | some (a,H1)=>(match fzL j ys H1 with
    | some (b,H2)=>some (a++b,H2)
    | none=>none)
  | none=>none)
 | [],H=>by
   simp only[List.nil_append,fzL]
   cases fzL j ys H with
   | none=>rfl
   | some q=>rfl
 | x::xs,H=>by
   simp only[List.cons_append,fzL]
   cases fzA j x H with
   | none=>rfl
   | some q=>
     simp only[fzL_append ys xs q.2]
     cases fzL j xs q.2 with
     | none=>rfl
     | some q2=>
       simp only[]
       cases fzL j ys q2.2 with
       | none=>rfl
       | some q3=>rfl
theorem fz_set {tot m i:Nat} {ins:List Ins} {op px py pn caps:Int} {runes:Bool} {sp:List (Int×Int)} {r0 r1:MB} (hi:i < ins.length) (hn:tot=ins.length) (hm:m=sp.length) :
  ∃ H',fz (.agg [.ms 2 5 tot 0 tot,I caps,.bool runes]) [r0,r1,.row 5 ((ins.map insAV).set i (.agg [I op,I px,I py,I pn,.ms 3 2 m 0 m])) 0,.row 2 (sp.map spanAV) 0] =
    some (prgAV ⟨ins.set i ⟨op,px,py,pn,sp⟩,caps,runes⟩,H'):=by
 subst hn;subst hm
 obtain⟨E,hE⟩:∃ E,(ins.map insAV).set i (.agg [I op,I px,I py,I pn,.ms 3 2 sp.length 0 sp.length])=E:=⟨_,rfl⟩
 have hl:E.length=ins.length:=by rw[← hE];simp
 have ht:E=(ins.take i).map insAV++(.agg [I op,I px,I py,I pn,.ms 3 2 sp.length 0 sp.length])::(ins.drop (i+1)).map insAV:=by
  rw[← hE,List.set_eq_take_append_cons_drop,if_pos (by simpa using hi),List.map_take,List.map_drop]
 rw[hE]
 have hsp:∀(j:Nat) (H:List MB),getRow H 3=some (2,sp.map spanAV,0)→fzA (fzJ (j+1)) (.ms 3 2 sp.length 0 sp.length) H=some (.sl false (sp.map spanAV),mark H 3 (0+sp.length)):=fun j H h=>
  fzA_ms h (by simp) (by simp) (by rw[List.drop_zero,List.take_of_length_le (by simp)];exact fzL_plain _ _ _ (plain_span _))
 have hrow:∃ H',fzL (fzJ 5) E [r0,r1,.row 5 E (max 0 (0+ins.length)),.row 2 (sp.map spanAV) 0]=some ((ins.set i ⟨op,px,py,pn,sp⟩).map insAV,H'):=by
  generalize hHH:([r0,r1,.row 5 E (max 0 (0+ins.length)),.row 2 (sp.map spanAV) 0]:List MB)=HH
  have h3:getRow HH 3=some (2,sp.map spanAV,0):=by rw[← hHH];rfl
  rw[ht,fzL_append,fzL_plain _ _ _ (plain_ins _)]
  simp only[fzL,fzA_agg,fzA_int,hsp 4 HH h3,fzL_plain _ _ _ (plain_ins _)]
  refine⟨mark HH 3 (0+sp.length),?_⟩
  rw[List.map_set,List.set_eq_take_append_cons_drop,if_pos (by simpa using hi),List.map_take,List.map_drop]
 obtain⟨H',hrow⟩:=hrow
 simp only[fz,fzA_agg,fzL]
 rw[fzA_ms (n:=5) (k:=5) (z:=0) (els:=E) (ys:=(ins.set i ⟨op,px,py,pn,sp⟩).map insAV) (H':=H') rfl hl (by simp) (by
  rw[List.drop_zero,List.take_of_length_le (by rw[hl];exact Nat.le_refl _)];exact hrow)]
 exact⟨_,rfl⟩
theorem all_span2 (l:List (Int×Int)):((l.map spanAV).all fun y=>decide (y.cells.length=2) && y.cells.all AV.ok)=true:=by
 simp only[List.all_eq_true,List.mem_map,Bool.and_eq_true,decide_eq_true_eq]
 rintro _ ⟨i,_,rfl⟩
 exact⟨rfl,fun x hx=>by
  simp only[AV.cells,List.mem_cons,List.not_mem_nil,or_false]at hx
  rcases hx with rfl|rfl<;>rfl⟩
theorem in64_get (l:List Int) (j:Nat) (h:∀ x∈l,In64 x):In64 (l.getD j 0):=by
 rw[List.getD_eq_getElem?_getD]
 cases hj:l[j]? with
 | none=>exact⟨by simp,by simp⟩
 | some y=>exact h y (List.mem_of_getElem? hj)
theorem f28 (g:Prg) (a b:Nat) (ha:a≤1000000) (hb:b≤1000000) (hg:PrgN g a b) (pos how by_:Int) (h1:In64 pos) (h2:In64 how) (h3:In64 by_) :
  ∃ r,(∃ g',PrgN g' a (b+1)∧r=prgAV g')∧∀ H,call Tryz.prog pol1 11 [.agg [.sl false (g.ins.map insAV),I g.caps,.bool g.runes],I pos,I how,I by_] H=some (r,H):=by
 obtain⟨ins,caps,runes⟩:=g
 obtain⟨hl,hs,hc⟩:=hg
 simp only[]at hl hs hc
 refine call_runA Tryz.func11 rfl rfl rfl rfl rfl rfl (fun _=>rfl) (by simp[AV.plain,AV.plainL,plain_ints,plain_span,plain_ins,plain_prg]) ?_ ?_
 ·rintro _ ⟨g,_,rfl⟩;exact plain_prg g
 cases ins with
 | nil=>
   simp +contextual (disch:=omega) only[Tryz.f11,dd11,go_sem,simprocAttr,mu11,↓wrap_up,↓wrap_down,↓wrap_pred,↓wrap_sub_nat]
   exact⟨_,⟨⟨[],caps,runes⟩,⟨by simp,by simp,hc⟩,rfl⟩,_,rfl⟩
 | cons x xs=>
   simp only[List.length_cons]at hl
   have hf:=fun(n m:Int) (hn:In64 n) (hm:m≠0)=>f12 n m hn hm
   have hi:=around_lt (n:=pos) (m:=((xs.length+1:Nat):Int)) (by omega)
   have hfi:=f12 pos ((xs.length+1:Nat):Int) h1 (by omega)
   obtain⟨i,hie,hil⟩:∃ i:Nat,aroundI pos ((xs.length+1:Nat):Int)=i∧i < xs.length+1:=⟨(aroundI pos ((xs.length+1:Nat):Int)).toNat,by omega,by omega⟩
   rw[hie]at hfi
   obtain⟨p,hp⟩:∃ p,(x::xs)[i]?=some p:=⟨_,List.getElem?_eq_getElem hil⟩
   have hp':(insAV x::List.map insAV xs)[i]?=some (insAV p):=by
    have:((x::xs).map insAV)[i]?=some (insAV p):=by rw[List.getElem?_map,hp];rfl
    exact this
   have h5:=around_lt (n:=by_) (m:=5) (by omega)
   have h4:=around_lt (n:=by_) (m:=4) (by omega)
   obtain⟨j5,e5,l5⟩:∃ j:Nat,aroundI by_ 5=j∧j < 5:=⟨(aroundI by_ 5).toNat,by omega,by omega⟩
   obtain⟨j4,e4,l4⟩:∃ j:Nat,aroundI by_ 4=j∧j < 4:=⟨(aroundI by_ 4).toNat,by omega,by omega⟩
   have f5:=f12 by_ 5 h3 (by omega)
   have f4:=f12 by_ 4 h3 (by omega)
   rw[e5]at f5
   rw[e4]at f4
   have hh:=around_lt (n:=how) (m:=8) (by omega)
   have fh:=f12 how 8 h2 (by omega)
   generalize aroundI how 8=k at *
   have hst:∀ q:Ins,(insAV x::List.map insAV xs).set i (insAV q)=((x::xs).set i q).map insAV:=fun q=>by
    rw[List.map_set];rfl
   have hal:=all_ins5 (x::xs)
   have hroom:roomFor (xs.length+1) 56=true:=by simp[roomFor];omega
   have hps:p.set.length≤b:=hs p (List.mem_of_getElem? hp)
   have hnew:∀ q:Ins,q.set.length≤b+1→∀ c,In64 c→∀ r,PrgN ⟨(x::xs).set i q,c,r⟩ a (b+1):=fun q hq c hc r=>⟨by simp;omega,fun y hy=>by
    rcases List.mem_or_eq_of_mem_set hy with h|h
    ·have:=hs y h;omega
    ·rw[h];exact hq,hc⟩
   rcases(by omega:k=0∨k=1∨k=2∨k=3∨k=4∨k=5∨k=6∨k=7) with rfl|rfl|rfl|rfl|rfl|rfl|rfl|rfl
   ·simp +contextual (disch:=omega) only[Tryz.f11,dd11,go_sem,simprocAttr,mu11,↓wrap_up,↓wrap_down,↓wrap_pred,↓wrap_sub_nat,hfi,fh,hp',f5,get5,l5,f4,get4,l4]
    refine⟨hal,hroom,?_⟩
    exact⟨_,⟨⟨(x::xs).set i ⟨[by_,-1,6,1,4].getD j5 0,p.x,p.y,p.n,p.set⟩,caps,runes⟩,hnew ⟨[by_,-1,6,1,4].getD j5 0,p.x,p.y,p.n,p.set⟩ (by simp only[];omega) _ hc _,rfl⟩,fz_all (congrArg (fun z=>some (5,z,0)) (hst ⟨[by_,-1,6,1,4].getD j5 0,p.x,p.y,p.n,p.set⟩)) (by simp)⟩
   ·simp +contextual (disch:=omega) only[Tryz.f11,dd11,go_sem,simprocAttr,mu11,↓wrap_up,↓wrap_down,↓wrap_pred,↓wrap_sub_nat,hfi,fh,hp',f5,get5,l5,f4,get4,l4]
    refine⟨hal,hroom,?_⟩
    exact⟨_,⟨⟨(x::xs).set i ⟨p.op,[by_,-1,((xs.length+1:Nat):Int),(xs.length:Int)].getD j4 0,p.y,p.n,p.set⟩,caps,runes⟩,hnew ⟨p.op,[by_,-1,((xs.length+1:Nat):Int),(xs.length:Int)].getD j4 0,p.y,p.n,p.set⟩ (by simp only[];omega) _ hc _,rfl⟩,fz_all (congrArg (fun z=>some (5,z,0)) (hst ⟨p.op,[by_,-1,((xs.length+1:Nat):Int),(xs.length:Int)].getD j4 0,p.y,p.n,p.set⟩)) (by simp)⟩
   ·simp +contextual (disch:=omega) only[Tryz.f11,dd11,go_sem,simprocAttr,mu11,↓wrap_up,↓wrap_down,↓wrap_pred,↓wrap_sub_nat,hfi,fh,hp',f5,get5,l5,f4,get4,l4]
    refine⟨hal,hroom,?_⟩
    exact⟨_,⟨⟨(x::xs).set i ⟨p.op,p.x,[by_,-1,((xs.length+1:Nat):Int),0].getD j4 0,p.n,p.set⟩,caps,runes⟩,hnew ⟨p.op,p.x,[by_,-1,((xs.length+1:Nat):Int),0].getD j4 0,p.n,p.set⟩ (by simp only[];omega) _ hc _,rfl⟩,fz_all (congrArg (fun z=>some (5,z,0)) (hst ⟨p.op,p.x,[by_,-1,((xs.length+1:Nat):Int),0].getD j4 0,p.n,p.set⟩)) (by simp)⟩
   ·simp +contextual (disch:=omega) only[Tryz.f11,dd11,go_sem,simprocAttr,mu11,↓wrap_up,↓wrap_down,↓wrap_pred,↓wrap_sub_nat,hfi,fh,hp',f5,get5,l5,f4,get4,l4]
    refine⟨hal,hroom,by unfold dOk;kernel_rfl,by kernel_rfl,?_⟩
    exact⟨_,⟨⟨(x::xs).set i ⟨p.op,p.x,p.y,[by_,-1,5,6,IntKind.i64.wrap (2 * caps)].getD j5 0,p.set⟩,caps,runes⟩,hnew ⟨p.op,p.x,p.y,[by_,-1,5,6,IntKind.i64.wrap (2 * caps)].getD j5 0,p.set⟩ (by simp only[];omega) _ hc _,rfl⟩,fz_all (congrArg (fun z=>some (5,z,0)) (hst ⟨p.op,p.x,p.y,[by_,-1,5,6,IntKind.i64.wrap (2 * caps)].getD j5 0,p.set⟩)) (by simp)⟩
   ·obtain⟨op,px,py,pn,set⟩:=p
    simp only[]at hps
    cases set with
    | nil=>
      simp +contextual (disch:=omega) only[Tryz.f11,dd11,go_sem,simprocAttr,mu11,↓wrap_up,↓wrap_down,↓wrap_pred,↓wrap_sub_nat,hfi,fh,hp',f5,get5,l5,f4,get4,l4]
      refine⟨hal,hroom,rfl,?_⟩
      exact⟨_,⟨⟨(x::xs).set i ⟨op,px,py,pn,[(by_,[by_,255,256,1114111,1114112].getD j5 0)]⟩,caps,runes⟩,hnew _ (by simp) _ hc _,rfl⟩,fz_set (ins:=x::xs) (sp:=[(by_,_)]) hil rfl rfl⟩
    | cons y ys=>
      simp +contextual (disch:=omega) only[Tryz.f11,dd11,go_sem,simprocAttr,mu11,↓wrap_up,↓wrap_down,↓wrap_pred,↓wrap_sub_nat,hfi,fh,hp',f5,get5,l5,f4,get4,l4]
      have e1:spanAV y::(List.take ys.length (List.map spanAV ys)++[AV.agg [I by_,I ([by_,255,256,1114111,1114112].getD j5 0)]]) =
       (y::(ys++[(by_,[by_,255,256,1114111,1114112].getD j5 0)])).map spanAV:=by
       rw[List.take_of_length_le (by simp)];simp
      rw[e1]
      simp only[List.length_cons]at hps
      refine⟨hal,hroom,all_span2 (y::ys),by simp[roomFor];omega,by simp[roomFor];omega,?_⟩
      exact⟨_,⟨⟨(x::xs).set i ⟨op,px,py,pn,y::(ys++[(by_,[by_,255,256,1114111,1114112].getD j5 0)])⟩,caps,runes⟩,hnew _ (by simp;omega) _ hc _,rfl⟩,fz_set (ins:=x::xs) (sp:=y::(ys++[(by_,_)])) hil rfl (by simp)⟩
   ·simp +contextual (disch:=omega) only[Tryz.f11,dd11,go_sem,simprocAttr,mu11,↓wrap_up,↓wrap_down,↓wrap_pred,↓wrap_sub_nat,hfi,fh,hp',f5,get5,l5,f4,get4,l4]
    refine⟨hal,hroom,?_⟩
    exact⟨_,⟨⟨x::xs,[by_,-1,9,10].getD j4 0,runes⟩,⟨by simp;omega,fun y hy=>by have:=hs y hy;omega,in64_get _ _ (by intro z hz;simp at hz;rcases hz with rfl|rfl|rfl|rfl<;>first|exact h3|exact⟨by omega,by omega⟩)⟩,rfl⟩,fz_all rfl (by simp)⟩
   ·simp +contextual (disch:=omega) only[Tryz.f11,dd11,go_sem,simprocAttr,mu11,↓wrap_up,↓wrap_down,↓wrap_pred,↓wrap_sub_nat,hfi,fh,hp',f5,get5,l5,f4,get4,l4]
    refine⟨hal,hroom,?_⟩
    exact⟨_,⟨⟨(x::xs).take (xs.length - 0),caps,runes⟩,⟨by simp;omega,fun y hy=>by have:=hs y (List.mem_of_mem_take hy);omega,hc⟩,rfl⟩,fz_ms (ins:=x::xs) rfl (by simp) (by omega)⟩
   ·simp +contextual (disch:=omega) only[Tryz.f11,dd11,go_sem,simprocAttr,mu11,↓wrap_up,↓wrap_down,↓wrap_pred,↓wrap_sub_nat,hfi,fh,hp',f5,get5,l5,f4,get4,l4]
    refine⟨hal,hroom,?_⟩
    exact⟨_,⟨⟨x::xs,caps,!runes⟩,⟨by simp;omega,fun y hy=>by have:=hs y hy;omega,hc⟩,rfl⟩,fz_all rfl (by simp)⟩
end
section
attribute [local go_sem] tySzE List.head?_drop Nat.mul_one sameAt_zero sameAt_two sameAt_three sameAt_four sameAt_five room_ok
open Go.Proofs Go.RowKit Go.IntWalk
set_option maxRecDepth 100000
set_option maxHeartbeats 8000000
theorem plain_setT (i:Ins) (n:Nat):AV.under n (insAVt i)=true:=by
 simp[AV.under,AV.underL,underL_plain n _ (plain_span i.set)]
abbrev k9H (l0:List Ins) (caps:Int) (runes:Bool) (ins:List Ins) (x:Ins):List MB:=
 [.row 3 [.agg [.sl true [],I 0,.bool false]] 0,.row 3 [.agg [.ms 4 5 l0.length 0 l0.length,I caps,.bool runes]] 0,.row 3 [.agg [.ms 4 5 l0.length 0 l0.length,I caps,.bool runes]] 0,.row 5 [insAVt x] 0,.row 5 (ins.map insAVt) 0,.row 3 [.agg [.ms 4 5 l0.length 0 l0.length,I caps,.bool runes]] 0]
theorem k9_under (l0:List Ins) (caps:Int) (runes:Bool) (ins:List Ins) (x:Ins):(k9H l0 caps runes ins x).all (MB.under 6)=true:=by
 have h1:=underL_insT 6 ins
 have h2:=plain_setT x 6
 simp only[AV.under]at h2
 simp[MB.under,AV.underL,AV.under,h1]
 simpa [AV.underL,AV.under] using h2
theorem k9 (l:List Int) (hl:∀ x∈l,In64 x):∃ r,(∃ g,PrgN g 12 1∧1≤g.ins.length∧r=prgAV g)∧∀ H,call Tryz.prog polK 9 [.sl false (l.map I)] H=some (r,H):=by
 obtain⟨r10,⟨g,x0,hg,rfl⟩,h10⟩:=k10 l hl
 have hP:=fun i m h=>k34 l i m hl h
 obtain⟨hg1,hg2⟩:=hg.len
 refine call_runA Tryz.func9 rfl rfl rfl rfl rfl rfl (fun _=>rfl) (by simp[AV.plain,AV.plainL,plain_ints,plain_span,plain_ins,plain_prg]) ?_ ?_
 ·rintro _ ⟨g,_,_,rfl⟩;exact plain_prg g
 simp +contextual (disch:=omega) only[Tryz.f9,dd9,go_sem,simprocAttr,mu9,↓wrap_up,↓wrap_down,↓wrap_pred,↓wrap_sub_nat,polK_dead,polK_bdead,polK_racts,polK_muts,polK_alts,h10]
 have hk4:∀ i:Nat,AV.underL 6 [.int .i64 i,.rf 5 1 0 0,.rf 0 1 0 0,.sl false (l.map I)]=true:=fun i=>by
  have:=underL_plain 6 _ (plain_ints l)
  simp[AV.underL,AV.under,this]
 refine W_for (σ:=Nat×List Ins) (M:=(mskOf (polK.mask 9) (polK.gc 9) (polK.acts 9) 0 3)) (by rfl) (fun s=>(⟨57,[(4,NV s.1),(3,.rf 5 1 0 0),(2,.rf 0 1 0 0),(0,.sl false (l.map I))],[.row 3 [.agg [.sl true [],I 0,.bool false]] 0,.row 3 [.agg [.ms 4 5 g.ins.length 0 g.ins.length,I g.caps,.bool g.runes]] 0,.row 3 [.agg [.ms 4 5 g.ins.length 0 g.ins.length,I g.caps,.bool g.runes]] 0,.row 5 [insAVt x0] 0,.row 5 (s.2.map insAVt) 0,.row 3 [.agg [.ms 4 5 g.ins.length 0 g.ins.length,I g.caps,.bool g.runes]] 0]⟩:St))
  (fun s=>s.1≤g.ins.length∧s.2.length=g.ins.length∧∀ x∈s.2,x.set.length≤1) (fun s=>g.ins.length - s.1) (0,g.ins) ?_ ⟨Nat.zero_le _,rfl,hg.sets⟩ _ ?_
 ·rintro⟨i,ins⟩ ⟨hi,hlen,hset⟩
  simp only at hi hlen hset ⊢
  by_cases hil:i < g.ins.length
  ·obtain⟨x,hx⟩:∃ x,ins[i]?=some x:=⟨_,List.getElem?_eq_getElem (by omega)⟩
   have hx':(ins.map insAVt)[i]?=some (insAVt x):=by simp[hx]
   have hxs:=hset x (List.mem_of_getElem? hx)
   have hlt:((i:Int) < ((g.ins.length:Nat):Int))=True:=eq_true (by omega)
   have hwi:IntKind.i64.wrap ((i:Int)+1)=((i+1:Nat):Int):=by rw[i64_in]<;>omega
   have nxt:∀ x':Ins,x'.set.length≤1→((ins.set i x').length=g.ins.length∧∀ y∈ins.set i x',y.set.length≤1):=fun x' h=>⟨by simp[hlen],fun y hy=>by
    rcases List.mem_or_eq_of_mem_set hy with h1|h1
    ·exact hset y h1
    ·rw[h1];exact h⟩
   have hms:∀ x':Ins,(ins.map insAVt).set i (insAVt x')=(ins.set i x').map insAVt:=fun x'=>by rw[List.map_set]
   have hun:∀ x':Ins,[MB.row 3 [.agg [.sl true [],I 0,.bool false]] 0,.row 3 [.agg [.ms 4 5 g.ins.length 0 g.ins.length,I g.caps,.bool g.runes]] 0,.row 3 [.agg [.ms 4 5 g.ins.length 0 g.ins.length,I g.caps,.bool g.runes]] 0,.row 5 [insAVt x0] 0,.row 5 ((ins.map insAVt).set i (insAVt x')) 0,.row 3 [.agg [.ms 4 5 g.ins.length 0 g.ins.length,I g.caps,.bool g.runes]] 0].all (MB.under 6)=true:=fun x'=>by
    rw[hms];exact k9_under g.ins g.caps g.runes (ins.set i x') x0
   by_cases h5:x.op=5
   ·simp +contextual (disch:=omega) only[Tryz.f9,dd9,go_sem,simprocAttr,mu9,↓wrap_up,↓wrap_down,↓wrap_pred,↓wrap_sub_nat,polK_dead,polK_bdead,polK_racts,polK_muts,polK_alts,hx',hlt,hwi,nonneg_nat,h5,hlen]
    refine⟨(i+1,ins.set i ⟨3,((i+1:Nat):Int),0,0,[]⟩),⟨hil,nxt _ (by simp;try omega)⟩,by simp only;omega,?_⟩
    simp only
    rw[← hms]
    exact prep_to rfl rfl (hk4 (i+1)) (hun ⟨3,((i+1:Nat):Int),0,0,[]⟩) rfl
   ·by_cases h1:x.op=1
    ·by_cases hs:0 < x.set.length
     ·obtain⟨p,hp⟩:∃ p,x.set=[p]:=by
       cases hq:x.set with
       | nil=>rw[hq]at hs;cases hs
       | cons p m=>cases m with
         | nil=>exact⟨p,rfl⟩
         | cons q m=>rw[hq]at hxs;simp at hxs
      have hP1:=hP i 3 (by omega)
      have hP2:=hP (i+1:Nat) 5 (by omega)
      have hb1:=pick_lt (l:=l) (i:=i) (m:=3) (by omega)
      have hb2:=pick_lt (l:=l) (i:=(i+1:Nat)) (m:=5) (by omega)
      simp +contextual (disch:=omega) only[Tryz.f9,dd9,go_sem,simprocAttr,mu9,↓wrap_up,↓wrap_down,↓wrap_pred,↓wrap_sub_nat,polK_dead,polK_bdead,polK_racts,polK_muts,polK_alts,hx',hlt,hwi,nonneg_nat,h1,hlen,hp,hP1,hP2]
      refine⟨(i+1,ins.set i ⟨1,x.x,x.y,x.n,[(97+pickI l i 3,97+pickI l i 3+pickI l (i+1:Nat) 5 / 4)]⟩),⟨hil,nxt _ (by simp;try omega)⟩,by simp only;omega,?_⟩
      simp only
      rw[← hms]
      exact prep_to rfl rfl (hk4 (i+1)) (hun ⟨1,x.x,x.y,x.n,[(97+pickI l i 3,97+pickI l i 3+pickI l (i+1:Nat) 5 / 4)]⟩) rfl
     ·have hs0:x.set=[]:=List.length_eq_zero_iff.1 (by omega)
      simp +contextual (disch:=omega) only[Tryz.f9,dd9,go_sem,simprocAttr,mu9,↓wrap_up,↓wrap_down,↓wrap_pred,↓wrap_sub_nat,polK_dead,polK_bdead,polK_racts,polK_muts,polK_alts,hx',hlt,hwi,nonneg_nat,h1,hs0,hlen]
      refine⟨(i+1,ins.set i ⟨1,x.x,x.y,x.n,[]⟩),⟨hil,nxt _ (by simp;try omega)⟩,by simp only;omega,?_⟩
      simp only
      rw[← hms]
      exact prep_to rfl rfl (hk4 (i+1)) (hun ⟨1,x.x,x.y,x.n,[]⟩) rfl
    ·simp +contextual (disch:=omega) only[Tryz.f9,dd9,go_sem,simprocAttr,mu9,↓wrap_up,↓wrap_down,↓wrap_pred,↓wrap_sub_nat,polK_dead,polK_bdead,polK_racts,polK_muts,polK_alts,hx',hlt,hwi,nonneg_nat,h5,h1,hlen]
     refine⟨(i+1,ins.set i x),⟨hil,nxt _ hxs⟩,by simp only;omega,?_⟩
     simp only
     rw[← hms]
     exact prep_to rfl rfl (hk4 (i+1)) (hun x) rfl
  ·have hlt:((i:Int) < ((g.ins.length:Nat):Int))=False:=eq_false (by omega)
   simp +contextual (disch:=omega) only[Tryz.f9,dd9,go_sem,simprocAttr,mu9,↓wrap_up,↓wrap_down,↓wrap_pred,↓wrap_sub_nat,polK_dead,polK_bdead,polK_racts,polK_muts,polK_alts,hlt]
   have hf:=fz_allT (id:=4) (tot:=g.ins.length) (ins:=ins) (caps:=g.caps) (runes:=g.runes) (H:=.row 3 [.agg [.ms 4 5 g.ins.length 0 g.ins.length,I g.caps,.bool g.runes]] 0::(k9H g.ins g.caps g.runes ins x0).tail) rfl hlen.symm
   exact⟨_,⟨⟨ins,g.caps,g.runes⟩,⟨by simp only;omega,hset,by have:=hg.caps;simp only[In64];omega⟩,by simp only;omega,rfl⟩,hf⟩
 ·exact prep_to rfl rfl (hk4 0) (k9_under g.ins g.caps g.runes g.ins x0) rfl
end
section
attribute [local go_sem] tySzE List.head?_drop Nat.mul_one sameAt_zero sameAt_two sameAt_three sameAt_four sameAt_five room_ok
open Go.Proofs Go.RowKit Go.IntWalk
set_option maxRecDepth 100000
set_option maxHeartbeats 16000000
theorem g9 (l:List Int) (hl:∀ x∈l,In64 x):∃ g,PrgN g 12 1∧1≤g.ins.length∧∀ H,call Tryz.prog pol1 9 [.sl false (l.map I)] H=some (prgAV g,H):=by
 obtain⟨_,⟨g,h1,h2,rfl⟩,h3⟩:=k9 l hl
 refine⟨g,h1,h2,fun H=>?_⟩
 rw[call_eq]
 unfold evStep
 rw[if_neg (show ¬ pol1.pure 9=true by decide),if_neg (by decide)]
 exact h3 H
theorem PrgN.b {g:Prg} {a b:Nat} (h:PrgN g a b) (ha:a≤1000000) (hb:b≤1000000):PrgB g:=⟨Nat.le_trans h.len ha,fun i hi=>Nat.le_trans (h.sets i hi) hb⟩
structure Asked (g:Prg):Prop where
 b:PrgB g
 small:g.ins.length≤100
end
section
attribute [local go_sem] tySzE List.head?_drop Nat.mul_one sameAt_zero sameAt_two sameAt_three sameAt_four sameAt_five room_ok
open Go.Proofs Go.RowKit Go.IntWalk
set_option maxRecDepth 100000
set_option maxHeartbeats 16000000
theorem polT_dead:polT.dead=pol1.dead:=rfl
theorem polT_bdead:polT.bdead=pol1.bdead:=rfl
theorem polT_racts:polT.racts=pol1.racts:=rfl
theorem polT_muts:polT.muts=pol1.muts:=rfl
theorem polT_alts:polT.alts=pol1.alts:=rfl
theorem lawT (l:List Int) (hl:∀ x∈l,In64 x) (a h b:Int) (ha:In64 a) (hh:In64 h) (hb:In64 b) (H:List MB) :
  call Tryz.prog polT 3 [.sl false (l.map I),I a,I h,I b] H=some (.bool true,H):=by
 obtain⟨g1,hn1,hp1,h9⟩:=g9 l hl
 obtain⟨_,⟨g2,ho2,rfl⟩,h10⟩:=f21 l hl
 obtain⟨_,⟨g3,hn3,rfl⟩,h11⟩:=f28 g1 12 1 (by omega) (by omega) hn1 a h b ha hh hb
 have hA:∀ g∈[g1,g2,g3],Asked g:=fun g hg=>by
  simp at hg
  rcases hg with rfl|rfl|rfl
  ·exact⟨hn1.b (by omega) (by omega),by have:=hn1.len;omega⟩
  ·exact⟨⟨by have:=ho2.len.2;omega,fun i hi=>Nat.le_trans (ho2.sets i hi) (by omega)⟩,by have:=ho2.len.2;omega⟩
  ·exact⟨hn3.b (by omega) (by omega),by have:=hn3.len;omega⟩
 have h19:=t19
 have h9:=liftT 9 (by omega) (by decide) h9
 have h10:=liftT 10 (by omega) (by decide) h10
 have h11:=liftT 11 (by omega) (by decide) h11
 have hnp:ofK (Value.pointer none)=.nilp:=rfl
 refine call_run Tryz.func3 rfl rfl rfl rfl rfl rfl (fun _=>rfl) (by simp[AV.plain,AV.plainL,plain_ints,plain_span,plain_ins,plain_prg]) (by simp[AV.plain,AV.plainL,plain_ints,plain_span,plain_ins,plain_prg]) ?_ H
 simp +contextual (disch:=omega) only[Tryz.f3,dd3,go_sem,simprocAttr,mu3,↓wrap_up,↓wrap_down,↓wrap_pred,↓wrap_sub_nat,polT_dead,polT_bdead,polT_racts,polT_muts,polT_alts,h9,h10,h11]
 refine W_count (M:=(mskOf (polT.mask 3) (polT.gc 3) (polT.acts 3) 0 3)) (by rfl) 3 (fun i=>(⟨132,[(10,NV i),(9,.sl true ([g1,g2,g3].map prgAV))],[]⟩:St)) (fun _=>True) ?_ ?_ trivial _ ?_
 ·intro i hi _
  obtain⟨g,hg⟩:∃ g,[g1,g2,g3][i]?=some g:=⟨_,List.getElem?_eq_getElem hi⟩
  obtain⟨hgb,hgs⟩:=hA g (List.mem_of_getElem? hg)
  have hg':([g1,g2,g3].map prgAV)[i]?=some (prgAV g):=by rw[List.getElem?_map,hg];rfl
  generalize [g1,g2,g3].map prgAV=A at hg'
  have h13:=liftT 13 (by omega) (by decide) (fun H=>f24 g (by omega) H)
  have h15:=liftT 15 (by omega) (by decide) (fun H=>g15 g hgb H)
  have hlt:((i:Int) < 3)=True:=eq_true (by omega)
  have hwi:IntKind.i64.wrap ((i:Int)+1)=((i+1:Nat):Int):=by rw[i64_in]<;>omega
  by_cases hac:acceptG g=0
  ·have hok:=okP_of hac
   rw[hac]at h15
   obtain⟨_,⟨xs,fk,hex,rfl⟩,h12⟩:=g12 g hgb hac
   obtain⟨_,⟨xs',fk',hex',rfl⟩,h14⟩:=g14 g hgb hac
   obtain⟨_,⟨syms,ps,fk2,hsy,hsr,rfl⟩,h16⟩:=g16 hok
   have e1:=(hex.2 syms hsy).symm.trans hsr
   have e2:=(hex'.2 syms hsy).symm.trans hsr
   simp only[Prod.mk.injEq]at e1 e2
   obtain⟨rfl,rfl⟩:=e1
   obtain⟨rfl,rfl⟩:=e2
   cases fk' with
   | true=>
     have hpos:=srch_pos _ _ _ _ hsr
     obtain⟨q,hq⟩:∃ q,xs'[xs'.length - 1]?=some q:=⟨_,List.getElem?_eq_getElem (by omega)⟩
     have hlx:lastTx xs' = q.tx:=by simp[lastTx,hq]
     have hq':(xs'.map psF)[xs'.length - 1]?=some (psF q):=by simp[hq]
     have hxl:=hex'.1.len
     have htl:=hex'.1.txl _ q hq
     have hw0:IntKind.i64.wrap (((xs'.length:Nat):Int) - 1)=((xs'.length - 1:Nat):Int):=by rw[i64_in]<;>omega
     have hl0:(((xs'.length - 1:Nat):Int) < ((xs'.length:Nat):Int))=True:=eq_true (by omega)
     have h18:=fun H=>g18 q.tx q.tx (by omega) (by omega) H
     simp only[decide_true]at h18
     rw[if_pos rfl]at h12 h14
     rw[hlx]at h14
     have h12:=liftT 12 (by omega) (by decide) h12
     have h14:=liftT 14 (by omega) (by decide) h14
     have h16:=liftT 16 (by omega) (by decide) h16
     have h18:=liftT 18 (by omega) (by decide) h18
     simp +contextual (disch:=omega) only[Tryz.f3,dd3,go_sem,simprocAttr,mu3,↓wrap_up,↓wrap_down,↓wrap_pred,↓wrap_sub_nat,polT_dead,polT_bdead,polT_racts,polT_muts,polT_alts,h12,h13,h14,h15,h16,h18,hg',hlt,hwi,hq',hw0,hl0,nonneg_nat,hnp]
     repeat' (first|rfl|(intro h;first|exact absurd rfl h|skip)|apply And.intro)
   | false=>
     have h17:=fun H=>g17 g.ins g.caps xs'.length H
     rw[if_neg (by simp)]at h12 h14
     have h12:=liftT 12 (by omega) (by decide) h12
     have h14:=liftT 14 (by omega) (by decide) h14
     have h16:=liftT 16 (by omega) (by decide) h16
     have h17:=liftT 17 (by omega) (by decide) h17
     simp +contextual (disch:=omega) only[Tryz.f3,dd3,go_sem,simprocAttr,mu3,↓wrap_up,↓wrap_down,↓wrap_pred,↓wrap_sub_nat,polT_dead,polT_bdead,polT_racts,polT_muts,polT_alts,h12,h13,h14,h15,h16,h17,hg',hlt,hwi,nonneg_nat,hnp]
     repeat' (first|rfl|(intro h;first|exact absurd rfl h|skip)|apply And.intro)
  ·have h12:=liftT 12 (by omega) (by decide) (fun H=>g12_bad g hgb hac H)
   have h14:=liftT 14 (by omega) (by decide) (fun H=>g14_bad g hgb hac H)
   simp +contextual (disch:=omega) only[Tryz.f3,dd3,go_sem,simprocAttr,mu3,↓wrap_up,↓wrap_down,↓wrap_pred,↓wrap_sub_nat,polT_dead,polT_bdead,polT_racts,polT_muts,polT_alts,h12,h13,h14,h15,hg',hlt,hwi,hac,nonneg_nat,hnp]
   repeat' (first|rfl|(intro h;first|exact absurd rfl h|skip)|apply And.intro)
 ·intro _
  simp +contextual (disch:=omega) only[Tryz.f3,dd3,go_sem,simprocAttr,mu3,↓wrap_up,↓wrap_down,↓wrap_pred,↓wrap_sub_nat,polT_dead,polT_bdead,polT_racts,polT_muts,polT_alts,h19]
  exact⟨_,rfl⟩
 ·rfl
end
end Go.Ev
