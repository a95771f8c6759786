/- Functions of the program, each with what it computes; no further conditions. -/
import Derived.Test.YtmfpcondongbjaaGreatA07
import Derived.Test.YtmfpcondongbjaaGreatA08
import Derived.Test.YtmfpcondongbjaaGreatA15
import Derived.Test.YtmfpcondongbjaaGreatA16
import Derived.Test.YtmfpcondongbjaaGreatA24
import Derived.Test.YtmfpcondongbjaaGreatA23
set_option linter.unusedVariables false
set_option linter.unusedSimpArgs false
namespace Go.Ev
attribute [local go_sem] zAm evAppend evBin evBuild AV.cells splice List.length_append List.map_append tySzE List.head?_drop Nat.mul_one zAO zAT zAN zAP zAQ zAZ
open Go.Proofs Go.RowKit Go.IntWalk
set_option maxRecDepth 100000
set_option maxHeartbeats 16000000
noncomputable def polZ:Pol:=polL [12,25,29,32]
theorem zCV:polZ.dead=pol1.dead:=rfl
theorem zB7:polZ.bdead=pol1.bdead:=rfl
theorem zB6:polZ.racts=pol1.racts:=rfl
theorem zCU:polZ.muts=pol1.muts:=rfl
theorem zCW:polZ.alts=pol1.alts:=rfl
theorem liftZ (f:Nat) (h19:f≠19) (hf:[12,25,29,32].contains f=true) {args:List AV} {H H':List MB} {r:AV} (h:call Tryz.prog pol1 f args H=some (r,H')):call Tryz.prog polZ f args H=some (r,H'):=liftL (by decide) f h19 hf h
theorem okZ:CfOk Tryz.prog (call Tryz.prog polZ):=okL (by decide)
theorem paths_apart {g:Prg} (hv:validG g=0) (h:OkP g.ins) {Q:Nat→Prop} (hQ:Closed g.ins Q) (hQ0:Q 0) {t:List Int} (hs:g.ins.length≤800) (ht:t.length≤12) {pos:Nat} (hp:pos≤t.length) :
  ∃ ms:List M3,resP g t pos (-1) 1048576=(ms,0)∧∀(k n:Nat) (a b:M3),n < k→ms[k]?=some a→ms[n]?=some b→a.2.1≠b.2.1:=by
 have hcaps:=(zHi hv).caps
 obtain⟨rs,⟨n',ws,h1,h2,h3⟩,h4,_⟩:=apart_all h (P:=progOf g t) ⟨fun _=>rfl,fun _ _=>rfl⟩ hQ (t.length+1 - pos) 0 pos (List.replicate (2 * g.caps.toNat) (-1)) hQ0 (by omega) hp (by simp;omega)
 have hN:n'≤1048576:=by
  have:(t.length+1 - pos) * g.ins.length≤13 * 800:=Nat.mul_le_mul (by omega) hs
  omega
 have hc:checkG g t.length pos (-1) 1048576=0:=by
  unfold checkG
  rw[if_neg (by simp[hv]),if_neg (by omega),if_neg (by omega),if_neg (by omega)]
 have hr:=h3 [] (1048576 - n') []
 rw[List.append_nil,List.nil_append,show n' + (1048576 - n')=1048576 by omega,runW_nil]at hr
 refine⟨ws.map (matOf pos g.caps.toNat),?_,fun k n a b hkn ha hb=>?_⟩
 ·unfold resP
  rw[if_neg (by simp[hc]),Int.toNat_natCast,show (1048576:Int).toNat=1048576 from rfl,hr]
 ·rw[List.getElem?_map]at ha hb
  obtain⟨w,hw,rfl⟩:=Option.map_eq_some_iff.1 ha
  obtain⟨v,hv2,rfl⟩:=Option.map_eq_some_iff.1 hb
  rw[← h2]at h4
  have h5:=List.pairwise_iff_getElem.1 h4 n k (by have:=(List.getElem?_eq_some_iff.1 hv2).1;simpa using this) (by have:=(List.getElem?_eq_some_iff.1 hw).1;simpa using this) hkn
  simp only[List.getElem_map]at h5
  obtain⟨q1,q2⟩:=List.getElem?_eq_some_iff.1 hw
  obtain⟨q3,q4⟩:=List.getElem?_eq_some_iff.1 hv2
  rw[q2,q4]at h5
  show ((w.at_:Nat):Int)≠((v.at_:Nat):Int)
  omega
theorem law7 (l:List Int) (hl:∀ x∈l,In64 x) (m:List Int) (hm:∀ x∈m,In64 x) (H:List MB) :
  call Tryz.prog polZ 7 [.sl false (l.map I),.sl false (m.map I)] H=some (.bool true,H):=by
 have h19:∀ H,call Tryz.prog polZ 19 [] H=some (.bool true,H):=l19 [12,25,29,32]
 obtain⟨_,⟨cap,re,caps,t,hfit,hcomp,rfl⟩,h29⟩:=f31 l m hl hm false
 have h29:=fun H=>liftZ 29 (by decide) (by decide) (h29 H)
 have htl:=hfit.tl
 have h25:=fun H=>liftZ 25 (by decide) (by decide) (f14 ⟨re,caps,false⟩ hfit.wt H)
 have hcp:compP ⟨re,caps,false⟩=(prgOf re caps false,0):=by
  unfold compP
  rw[if_pos hfit.val,if_pos hcomp,if_pos (by have:=hfit.len;simp only;omega)]
 rw[hcp]at h25
 obtain⟨hv,hgb⟩:=prg_valid hfit.val (zER re [] hcomp) (by have:=hfit.len;omega)
 have hgs:(prgOf re caps false).ins.length≤800:=by
  obtain⟨_,_,_,_,hwg⟩:=zCn hfit.val
  have h1:=zBG caps (topI false) re 0 ⟨hwg,zER re [] hcomp⟩
  have h2:(codeG re 0++[(⟨0,0,0,0,[]⟩:Ins)]).length=lenG re+1:=by simp[h1]
  have h3:(prgOf re caps false).ins.length=lenG re+1:=h2
  have:=hfit.len
  omega
 have hpl:(patC ⟨re,caps,false⟩).length=10:=by simp[patC,zAM]
 have hpok:(patC ⟨re,caps,false⟩).all AV.ok=true:=by have:=zAt re;simp[patC,List.all_append,this,AV.ok]
 have hppl:AV.plainL (patC ⟨re,caps,false⟩)=true:=zAu ⟨re,caps,false⟩
 simp only[patAV]at h29 h25
 generalize patC ⟨re,caps,false⟩=pc at *
 have htk:List.take 10 pc=pc:=List.take_of_length_le (by omega)
 generalize prgOf re caps false=g at *
 have hnp:ofK (Value.pointer none)=.nilp:=rfl
 have hgp:=fun k=>zAF k _ (zAH g.ins)
 have hpp:=fun k=>zAF k _ hppl
 have htp:=fun k=>zAF k _ (zAE t)
 refine zAS Tryz.func7 rfl rfl rfl rfl rfl rfl (fun _=>rfl) (by simp[AV.plain,AV.plainL,zAE,zAG,zAH,zAI]) (by simp[AV.plain,AV.plainL,zAE,zAG,zAH,zAI]) ?_ H
 by_cases hac:acceptG g=0
 ·have hok:=okP_of hac
  obtain⟨_,⟨xs,fk,hex,rfl⟩,h12⟩:=g12 g hgb hac
  obtain⟨_,⟨syms,_,hsy⟩,_⟩:=g40 hok
  cases fk with
  | true=>
    rw[if_pos rfl]at h12
    have h12:=fun H=>liftZ 12 (by decide) (by decide) (h12 H)
    simp +contextual (disch:=omega) only[Tryz.f7,dd7,go_sem,simprocAttr,mu7,↓zAD,↓zAC,↓zAB,↓zAA,zCV,zB7,zB6,zCU,zCW,h29,h25,h12,h19,hnp,hpl,hpok,htk]
    exact⟨_,rfl⟩
  | false=>
    rw[if_neg (by simp)]at h12
    have h12:=fun H=>liftZ 12 (by decide) (by decide) (h12 H)
    obtain⟨hQ,hQ0⟩:=closed_of hok hsy hex
    simp +contextual (disch:=omega) only[Tryz.f7,dd7,go_sem,simprocAttr,mu7,↓zAD,↓zAC,↓zAB,↓zAA,zCV,zB7,zB6,zCU,zCW,h29,h25,h12,h19,hnp,hpl,hpok,htk]
    refine zAe (M:=(mskOf (polZ.mask 7) (polZ.gc 7) (polZ.acts 7) 0 9)) (by rfl) (t.length+1) (fun i=>(⟨79,[(11,NV i),(7,.rf 1 1 0 0),(6,.sl false (t.map I))],[.row 10 [.agg pc] 0,.row 3 [prgAV g] 0]⟩:St)) (fun _=>True) ?_ ?_ trivial _ ?_
    ·intro i hi _
     obtain⟨ms,hres,hap⟩:=paths_apart hv hok hQ hQ0 hgs htl (pos:=i) (by omega)
     have h32:=fun H=>liftZ 32 (by decide) (by decide) (paths23 g hgb t (by omega) i (-1) 1048576 (by omega) H)
     rw[hres]at h32
     have hsm:=resP_small g t i (-1) 1048576 (by omega) (zHi hv).caps.2
     rw[hres]at hsm
     obtain⟨hms,_⟩:=hsm
     simp only at hms
     have hlt:((i:Int)≤((t.length:Nat):Int))=True:=eq_true (by omega)
     have hwi:IntKind.i64.wrap ((i:Int)+1)=((i+1:Nat):Int):=by rw[i64_in]<;>omega
     have hmp:=fun k=>zAF k _ (zGy ms)
     simp +contextual (disch:=omega) only[Tryz.f7,dd7,go_sem,simprocAttr,mu7,↓zAD,↓zAC,↓zAB,↓zAA,zCV,zB7,zB6,zCU,zCW,h32,hlt]
     refine zAe (M:=(mskOf (polZ.mask 7) (polZ.gc 7) (polZ.acts 7) 0 15)) (by rfl) ms.length (fun k=>(⟨79,[(14,NV k),(12,.sl false (ms.map mA)),(11,NV i),(7,.rf 1 1 0 0),(6,.sl false (t.map I))],[.row 10 [.agg pc] 0,.row 3 [prgAV g] 0]⟩:St)) (fun _=>True) ?_ ?_ trivial _ ?_
     ·intro k hkl _
      obtain⟨a,ha⟩:∃ a,ms[k]?=some a:=⟨_,List.getElem?_eq_getElem hkl⟩
      have hlk:((k:Int) < ((ms.length:Nat):Int))=True:=eq_true (by omega)
      have hwk:IntKind.i64.wrap ((k:Int)+1)=((k+1:Nat):Int):=by rw[i64_in]<;>omega
      simp +contextual (disch:=omega) only[Tryz.f7,dd7,go_sem,simprocAttr,mu7,↓zAD,↓zAC,↓zAB,↓zAA,zCV,zB7,zB6,zCU,zCW,hlk]
      refine zAe (M:=(mskOf (polZ.mask 7) (polZ.gc 7) (polZ.acts 7) 0 18)) (by rfl) k (fun n=>(⟨79,[(15,NV n),(14,NV k),(12,.sl false (ms.map mA)),(11,NV i),(7,.rf 1 1 0 0),(6,.sl false (t.map I))],[.row 10 [.agg pc] 0,.row 3 [prgAV g] 0]⟩:St)) (fun _=>True) ?_ ?_ trivial _ ?_
      ·intro n hnk _
       obtain⟨b,hb⟩:∃ b,ms[n]?=some b:=⟨_,List.getElem?_eq_getElem (by omega)⟩
       have hne:=hap k n a b hnk ha hb
       have hln:((n:Int) < (k:Int))=True:=eq_true (by omega)
       have hwn:IntKind.i64.wrap ((n:Int)+1)=((n+1:Nat):Int):=by rw[i64_in]<;>omega
       simp +contextual (disch:=omega) only[Tryz.f7,dd7,go_sem,simprocAttr,mu7,↓zAD,↓zAC,↓zAB,↓zAA,zCV,zB7,zB6,zCU,zCW,hln,hwn,ha,hb,hne,mA,matAV]
       exact⟨(by unfold dOk;kernel_rfl),rfl⟩
      ·intro _
       have hln:((k:Int) < (k:Int))=False:=eq_false (by omega)
       simp +contextual (disch:=omega) only[Tryz.f7,dd7,go_sem,simprocAttr,mu7,↓zAD,↓zAC,↓zAB,↓zAA,zCV,zB7,zB6,zCU,zCW,hln,hwk]
       rfl
      ·rfl
     ·intro _
      have hlk:(((ms.length:Nat):Int) < ((ms.length:Nat):Int))=False:=eq_false (by omega)
      simp +contextual (disch:=omega) only[Tryz.f7,dd7,go_sem,simprocAttr,mu7,↓zAD,↓zAC,↓zAB,↓zAA,zCV,zB7,zB6,zCU,zCW,hlk,hwi]
      rfl
     ·rfl
    ·intro _
     have hlt:(((t.length+1:Nat):Int)≤((t.length:Nat):Int))=False:=eq_false (by omega)
     simp +contextual (disch:=omega) only[Tryz.f7,dd7,go_sem,simprocAttr,mu7,↓zAD,↓zAC,↓zAB,↓zAA,zCV,zB7,zB6,zCU,zCW,hlt,h19]
     exact⟨_,rfl⟩
    ·rfl
 ·have ha10:acceptG g=10:=by
   unfold acceptG at hac ⊢
   rw[if_neg (by simp[hv])]at hac ⊢
   split at hac
   ·rename_i h5;rw[if_pos h5]
   ·exact absurd rfl hac
  have h12:=fun H=>liftZ 12 (by decide) (by decide) (g12_bad g hgb hac H)
  rw[ha10]at h12
  simp +contextual (disch:=omega) only[Tryz.f7,dd7,go_sem,simprocAttr,mu7,↓zAD,↓zAC,↓zAB,↓zAA,zCV,zB7,zB6,zCU,zCW,h29,h25,h12,h19,hnp,hpl,hpok,htk]
  exact⟨_,rfl⟩
end Go.Ev
