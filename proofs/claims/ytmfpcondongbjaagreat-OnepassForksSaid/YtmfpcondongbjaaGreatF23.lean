/- Functions of the program, each with what it computes; no further conditions. -/
import Derived.Test.YtmfpcondongbjaaGreatF07
import Derived.Test.YtmfpcondongbjaaGreatF08
import Derived.Test.YtmfpcondongbjaaGreatF16
import Derived.Test.YtmfpcondongbjaaGreatF17
import Derived.Test.YtmfpcondongbjaaGreatF22
import Derived.Test.YtmfpcondongbjaaGreatF21
set_option linter.unusedVariables false
set_option linter.unusedSimpArgs false
namespace Go.Ev
attribute [local go_sem] evAppend evBin evBuild splice List.length_append List.map_append tySzE List.head?_drop Nat.mul_one sameAt_zero sameAt_two sameAt_three sameAt_four sameAt_five room_ok
open Go.Proofs Go.RowKit Go.IntWalk
set_option maxRecDepth 100000
set_option maxHeartbeats 16000000
noncomputable def polY:Pol:=polL [14,20,24,25,26,27,28]
theorem polY_dead:polY.dead=pol1.dead:=rfl
theorem polY_bdead:polY.bdead=pol1.bdead:=rfl
theorem polY_racts:polY.racts=pol1.racts:=rfl
theorem polY_muts:polY.muts=pol1.muts:=rfl
theorem polY_alts:polY.alts=pol1.alts:=rfl
theorem liftY (f:Nat) (h19:f≠19) (hf:[14,20,24,25,26,27,28].contains f=true) {args:List AV} {H H':List MB} {r:AV} (h:call Tryz.prog pol1 f args H=some (r,H')):call Tryz.prog polY f args H=some (r,H'):=liftL (by decide) f h19 hf h
theorem okY:CfOk Tryz.prog (call Tryz.prog polY):=okL (by decide)
theorem valid_of_accept {g:Prg} (h:acceptG g=0):validG g=0:=by
 unfold acceptG at h
 split at h
 ·rename_i h1;exact absurd h h1
 ·rename_i h1;exact Classical.byContradiction fun e=>h1 e
theorem law5 (l:List Int) (hl:∀ x∈l,In64 x) (bound:Int) (hbd:In64 bound) (H:List MB) :
  call Tryz.prog polY 5 [.sl false (l.map I),I bound] H=some (.bool true,H):=by
 have h19:∀ H,call Tryz.prog polY 19 [] H=some (.bool true,H):=l19 [14,20,24,25,26,27,28]
 have h20:=fun H=>liftY 20 (by decide) (by decide) (f12 bound 20 hbd (by omega) H)
 have har:=around_lt (n:=bound) (m:=20) (by omega)
 generalize aroundI bound 20=q at *
 have hw:IntKind.i64.wrap (12+q)=12+q:=by rw[i64_in]<;>omega
 have h24:=fun H=>liftY 24 (by decide) (by decide) (f11m l hl 0 (12+q) (by omega) H)
 obtain⟨hc0,hwt,hcp,hac,hgb⟩:=pat0 l (12+q) (by omega)
 rw[hc0]at h24
 generalize (treeF l 0 5 ⟨0,12+q,0⟩).1=re at *
 have h25:=fun H=>liftY 25 (by decide) (by decide) (f14 ⟨re,0,false⟩ hwt H)
 rw[hcp]at h25
 have hpl:(patC ⟨re,0,false⟩).length=10:=by simp[patC,reC_len]
 have hpok:(patC ⟨re,0,false⟩).all AV.ok=true:=by have:=reC_ok re;simp[patC,List.all_append,this,AV.ok]
 have hppl:AV.plainL (patC ⟨re,0,false⟩)=true:=plain_patC ⟨re,0,false⟩
 simp only[patAV]at h24 h25
 generalize patC ⟨re,0,false⟩=pc at *
 have htk:List.take 10 pc=pc:=List.take_of_length_le (by omega)
 generalize prgOf re 0 false=g at *
 have hok:=okP_of hac
 have hgl:=hok.len
 obtain⟨_,⟨xs,fk,hex,rfl⟩,h14⟩:=g14 g hgb hac
 have h14:=fun H=>liftY 14 (by decide) (by decide) (h14 H)
 obtain⟨_,⟨syms,_,hsy⟩,_⟩:=g40 hok
 obtain⟨e,htr,hfk,hel⟩:=fork_trail hok hsy hex
 have htl:(if fk=true then lastTx xs else []).length≤1000000:=by
  split
  ·unfold lastTx
   split
   ·rename_i r hr
    have h1:=hex.1.txl _ r hr
    have h2:=hex.1.len
    omega
   ·simp
  ·simp
 generalize (if fk=true then lastTx xs else [])=tx at *
 have hv:=valid_of_accept hac
 refine call_run Tryz.func5 rfl rfl rfl rfl rfl rfl (fun _=>rfl) (by simp[AV.plain,AV.plainL,plain_ints,plain_span,plain_ins,plain_prg]) (by simp[AV.plain,AV.plainL,plain_ints,plain_span,plain_ins,plain_prg]) ?_ H
 simp +contextual (disch:=omega) only[Tryz.f5,dd5,go_sem,simprocAttr,mu5,↓wrap_up,↓wrap_down,↓wrap_pred,↓wrap_sub_nat,polY_dead,polY_bdead,polY_racts,polY_muts,polY_alts,h20,hw,h24,h25,h14,hpl,hpok,htk]
 have hgp:=fun k=>underL_plain k _ (plain_ins g.ins)
 have hpp:=fun k=>underL_plain k _ hppl
 have htp:=fun k=>underL_plain k _ (plain_ints tx)
 have h26:∀ b0 b1 b2:MB,call Tryz.prog polY 26 [.agg [.ms 3 5 g.ins.length 0 g.ins.length,I g.caps,.bool g.runes]] [b0,b1,b2,.row 5 (g.ins.map insAV) 0]=some (I 0,[b0,b1,b2,.row 5 (g.ins.map insAV) g.ins.length]):=fun b0 b1 b2=>by
  refine liftY 26 (by decide) (by decide) ?_
  rw[call_frzP (l:=[prgAV g]) (H1:=[b0,b1,b2,.row 5 (g.ins.map insAV) g.ins.length]) rfl ?_ (by simp[AV.plainL,AV.plain,plain_ins])]
  ·have:=f29 g hgb [b0,b1,b2,.row 5 (g.ins.map insAV) g.ins.length]
   rw[hv]at this
   exact this
  ·have h2:fz (.agg [.ms 3 5 g.ins.length 0 g.ins.length,I g.caps,.bool g.runes]) [b0,b1,b2,.row 5 (g.ins.map insAV) 0]=some (prgAV g,[b0,b1,b2,.row 5 (g.ins.map insAV) g.ins.length]):=by
    simp only[fz,fzA_agg,fzL,fzA_int]
    rw[fzA_row (els:=g.ins.map insAV) (k:=5) (z:=0) rfl (by simp) (plain_ins _)]
    simp[mark,getRow]
    rfl
   have hby:∀ i,pol1.byref 26 i=false:=fun i=>rfl
   simp only[frzArgs,hby,Bool.false_eq_true,if_false,h2]
 refine W_count (M:=(mskOf (polY.mask 5) (polY.gc 5) (polY.acts 5) 0 8)) (by rfl) g.ins.length (fun i=>(⟨100,[(12,NV i),(11,.rf 2 1 0 0),(9,.bool fk),(8,.sl false (tx.map I)),(6,.rf 1 1 0 0)],[.row 10 [.agg pc] 0,.row 3 [prgAV g] 0,.row 3 [.agg [.ms 3 5 i 0 i,I g.caps,.bool g.runes]] 0,.row 5 ((g.ins.take i).map insAV) 0]⟩:St)) (fun _=>True) ?_ ?_ trivial _ ?_
 ·intro i hi _
  obtain⟨x,hx⟩:∃ x,g.ins[i]?=some x:=⟨_,List.getElem?_eq_getElem hi⟩
  have hx':(g.ins.map insAV)[i]?=some (insAV x):=by simp[hx]
  have hlen:(g.ins.take i).length=i:=by simp;omega
  have hlt:((i:Int) < ((g.ins.length:Nat):Int))=True:=eq_true (by omega)
  have hwi:IntKind.i64.wrap ((i:Int)+1)=((i+1:Nat):Int):=by rw[i64_in]<;>omega
  rw[List.take_add_one,hx]
  have hys:=fun k=>underL_plain k _ (plain_ins (g.ins.take i))
  generalize g.ins.take i=ys at *
  have htk2:=take_map_len (f:=insAV) hlen
  simp +contextual (disch:=omega) only[Tryz.f5,dd5,go_sem,simprocAttr,mu5,↓wrap_up,↓wrap_down,↓wrap_pred,↓wrap_sub_nat,polY_dead,polY_bdead,polY_racts,polY_muts,polY_alts,hx,hlt,hwi,hlen,htk2]
  have hk:AV.underL 4 [NV (i+1),.rf 2 1 0 0,.bool fk,.sl false (tx.map I),.rf 1 1 0 0]=true:=by simp[AV.underL,AV.under,htp]
  have hu:[MB.row 10 [.agg pc] 0,.row 3 [prgAV g] 0,.row 3 [.agg [.ms 3 5 (i+1) 0 (i+1),I g.caps,.bool g.runes]] 0,.row 5 (ys.map insAV++[insAV x]) 0].all (MB.under 4)=true:=by
   simp[MB.under,AV.underL,AV.under,hpp,hgp,hys,underL_append,underL_plain 4 _ (plain_span x.set)]
  exact prep_to rfl rfl hk hu rfl
 ·intro _
  rw[List.take_length]
  have hz:∀ b0 b1 b2:MB,fzs [.agg [.ms 3 5 g.ins.length 0 g.ins.length,I g.caps,.bool g.runes]] [b0,b1,b2,.row 5 (g.ins.map insAV) g.ins.length]=some ([prgAV g],[b0,b1,b2,.row 5 (g.ins.map insAV) g.ins.length]):=by
   intro b0 b1 b2
   simp only[fzs,fzL,fzA_agg,fzA_int]
   rw[fzA_row (els:=g.ins.map insAV) (k:=5) (z:=g.ins.length) rfl (by simp) (plain_ins _)]
   simp[mark,getRow]
   rfl
  simp +contextual (disch:=omega) only[Tryz.f5,dd5,go_sem,simprocAttr,mu5,↓wrap_up,↓wrap_down,↓wrap_pred,↓wrap_sub_nat,polY_dead,polY_bdead,polY_racts,polY_muts,polY_alts,h26,hz,AV.beqL_refl]
  have hk4:∀(i st:Nat),AV.underL 3 [NV i,NV st,.rf 2 1 0 0,.bool fk,.sl false (tx.map I)]=true:=fun i st=>by simp[AV.underL,AV.under,htp]
  have hun:[MB.row 10 [.agg pc] 0,.row 3 [prgAV g] 0,.row 3 [prgAV g] 0].all (MB.under 3)=true:=by simp[MB.under,AV.underL,AV.under,hpp,hgp]
  refine W_for (σ:=Nat×Nat) (M:=(mskOf (polY.mask 5) (polY.gc 5) (polY.acts 5) 0 16)) (by rfl) (fun s=>(⟨100,[(15,NV s.1),(14,NV s.2),(11,.rf 2 1 0 0),(9,.bool fk),(8,.sl false (tx.map I))],[.row 10 [.agg pc] 0,.row 3 [prgAV g] 0,.row 3 [prgAV g] 0]⟩:St))
   (fun s=>s.1≤tx.length∧s.2 < g.ins.length∧trail g.ins s.2 (tx.drop s.1) e) (fun s=>tx.length - s.1) (0,0) ?_ ⟨Nat.zero_le _,hok.pos,by simpa using htr⟩ _ ?_
  ·rintro⟨i,st⟩ ⟨hi,hst,htrl⟩
   simp only at hi hst htrl ⊢
   obtain⟨_,⟨bb,rfl,hbb⟩,h27⟩:=g27 hok hst
   have h27:=fun H=>liftY 27 (by decide) (by decide) (h27 H)
   by_cases hil:i < tx.length
   ·obtain⟨s,hs⟩:∃ s,tx[i]?=some s:=⟨_,List.getElem?_eq_getElem hil⟩
    have hdr:tx.drop i=s::tx.drop (i+1):=by
     rw[List.drop_eq_getElem_cons hil]
     congr 1
     exact(List.getElem?_eq_some_iff.1 hs).2
    rw[hdr]at htrl
    obtain⟨hnf,b,hlb,htr2⟩:=htrl
    have hb0:bb=false:=Bool.eq_false_iff.2 fun e=>hnf (hbb.1 e)
    rw[hb0]at h27
    have h28:=fun H=>liftY 28 (by decide) (by decide) (g28 hok hst s H)
    have hli:leadI g.ins st s=b:=by unfold leadI;rw[hlb]
    rw[hli]at h28
    have hlt:((i:Int) < ((tx.length:Nat):Int))=True:=eq_true (by omega)
    have hwi:IntKind.i64.wrap ((i:Int)+1)=((i+1:Nat):Int):=by rw[i64_in]<;>omega
    have hbn:((b:Int) < 0)=False:=eq_false (by omega)
    simp +contextual (disch:=omega) only[Tryz.f5,dd5,go_sem,simprocAttr,mu5,↓wrap_up,↓wrap_down,↓wrap_pred,↓wrap_sub_nat,polY_dead,polY_bdead,polY_racts,polY_muts,polY_alts,hs,hlt,hwi,h27,h28,hbn]
    refine⟨(by unfold dOk;kernel_rfl),(i+1,b),⟨hil,lead_lt hok hlb,htr2⟩,by simp only;omega,?_⟩
    exact prep_to rfl rfl (hk4 (i+1) b) hun rfl
   ·have hit:i=tx.length:=by omega
    subst hit
    rw[List.drop_length]at htrl
    obtain rfl:st=e:=htrl
    have hbf:bb=fk:=by
     cases bb<;>cases fk<;>simp_all
    rw[hbf]at h27
    have hlt:(((tx.length:Nat):Int) < ((tx.length:Nat):Int))=False:=eq_false (by omega)
    cases fk with
    | true=>
      simp +contextual (disch:=omega) only[Tryz.f5,dd5,go_sem,simprocAttr,mu5,↓wrap_up,↓wrap_down,↓wrap_pred,↓wrap_sub_nat,polY_dead,polY_bdead,polY_racts,polY_muts,polY_alts,hlt,h27,h19,beq_self_eq_true,Bool.true_beq,Bool.false_beq]
      exact⟨_,rfl⟩
    | false=>
      simp +contextual (disch:=omega) only[Tryz.f5,dd5,go_sem,simprocAttr,mu5,↓wrap_up,↓wrap_down,↓wrap_pred,↓wrap_sub_nat,polY_dead,polY_bdead,polY_racts,polY_muts,polY_alts,hlt,h27,h19,beq_self_eq_true,Bool.true_beq,Bool.false_beq]
      exact⟨_,rfl⟩
  ·exact prep_to rfl rfl (hk4 0 0) hun rfl
 ·have hk:AV.underL 4 [NV 0,.rf 2 1 0 0,.bool fk,.sl false (tx.map I),.rf 1 1 0 0]=true:=by simp[AV.underL,AV.under,htp]
  have hu:[MB.row 10 [.agg pc] 0,.row 3 [prgAV g] 0,.row 3 [.agg [.ms 3 5 0 0 0,I g.caps,.bool g.runes]] 0,.row 5 [] 0].all (MB.under 4)=true:=by
   simp[MB.under,AV.underL,AV.under,hpp,hgp]
  exact prep_to rfl rfl hk hu rfl
end Go.Ev
