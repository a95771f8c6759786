/- Functions of the program, each with what it computes; no further conditions. -/
import Derived.Test.YtmfpcondongbjaaGreatA07
import Derived.Test.YtmfpcondongbjaaGreatA20
import Derived.Test.YtmfpcondongbjaaGreatA17
import Derived.Test.YtmfpcondongbjaaGreatA19
set_option linter.unusedVariables false
set_option linter.unusedSimpArgs false
namespace Go.Ev
attribute [local go_sem] zAm evBin evBuild AV.cells splice tySzE List.head?_drop Nat.mul_one zAO zAT zAN zAP zAQ zAZ
section
attribute [local go_sem] evAppend List.length_append List.map_append
open Go.Proofs Go.RowKit Go.IntWalk
set_option maxRecDepth 100000
set_option maxHeartbeats 8000000
def matsG (at_:Int) (es:List Int) (cs:List Caps) (n:Nat):List AV:=(List.range n).map fun i=>matAV at_ (es.getD i 0) (cs.getD i [])
theorem matsG_succ (at_:Int) (es:List Int) (cs:List Caps) (n:Nat):matsG at_ es cs (n+1)=matsG at_ es cs n++[matAV at_ (es.getD n 0) (cs.getD n [])]:=by simp[matsG,List.range_succ]
theorem matsG_len (at_:Int) (es:List Int) (cs:List Caps) (n:Nat):(matsG at_ es cs n).length=n:=by simp[matsG]
theorem zDm (at_:Int) (es:List Int) (cs:List Caps) (n:Nat):AV.plainL (matsG at_ es cs n)=true:=by
 rw[zEO]
 intro x hx
 obtain⟨i,_,rfl⟩:=List.mem_map.1 hx
 exact zF6 _ _ _
theorem f137e (re:Re) (caps:Int) (t:List Int) (fuel:Int) (hw:re.wt≤1000000) (hv:validP ⟨re,caps,false⟩≠0) (H:List MB) :
  call Tryz.prog pol1 117 [patAV ⟨re,caps,false⟩,.sl false (t.map I),I fuel] H=some (I (validP ⟨re,caps,false⟩),H):=by
 have h52:=f52 ⟨re,caps,false⟩ hw
 generalize validP ⟨re,caps,false⟩=v at *
 have hpl:=zAu ⟨re,caps,false⟩
 refine zAS Tryz.func117 rfl rfl rfl rfl rfl rfl (fun _=>rfl) (by simp[AV.plainL,AV.plain,zAE];exact hpl) rfl ?_ H
 have hl8:=zAM re
 have hget9:(reC re++[I caps,.bool false])[9]?=some (.bool false):=by rw[List.getElem?_append_right (by omega),hl8];rfl
 have htk:List.take 10 (reC re++[I caps,.bool false])=reC re++[I caps,.bool false]:=List.take_of_length_le (by simp[zAM])
 have hall:=zAt re
 simp +contextual (disch:=omega) only[Tryz.f117,dd117,go_sem,simprocAttr,mu117,↓zAD,↓zAC,↓zAB,↓zAA,h52,hl8,hget9,htk,hall,List.all_append]
 repeat' (first|intro _|apply And.intro|(unfold dOk;kernel_rfl)|exact St.beq_refl _|(show altO _ _ _ _=true;kernel_rfl)|(show (_ || _)=true;kernel_rfl)|(show (_ && _)=true;kernel_rfl))
 all_goals exact⟨_,rfl⟩
theorem f123e (re:Re) (n:Nat) (t:List Int) (at_:Nat) (fuel:Int) (hw:re.wt≤1000000) (hv:validP ⟨re,n,false⟩≠0) (H:List MB) :
  call Tryz.prog pol1 95 [patAV ⟨re,n,false⟩,.sl false (t.map I),I at_,I (-1),I fuel] H=some (.tup [.sl false [],I 0,I (validP ⟨re,n,false⟩)],H):=by
 have h137:=f137e re n t fuel hw hv
 generalize validP ⟨re,n,false⟩=v at *
 have hpl:=zAu ⟨re,n,false⟩
 have hl8:=zAM re
 have htk:List.take 10 (reC re++[I n,.bool false])=reC re++[I n,.bool false]:=List.take_of_length_le (by simp[zAM])
 have hall:=zAt re
 refine zAS Tryz.func95 rfl rfl rfl rfl rfl rfl (fun _=>rfl) (by simp[AV.plainL,AV.plain,zAE];exact hpl) rfl ?_ H
 simp +contextual (disch:=omega) only[Tryz.f95,dd95,go_sem,simprocAttr,mu95,↓zAD,↓zAC,↓zAB,↓zAA,h137,hl8,htk,hall,List.all_append]
 repeat' (first|intro _|apply And.intro|(unfold dOk;kernel_rfl)|exact St.beq_refl _|(show altO _ _ _ _=true;kernel_rfl)|(show (_ || _)=true;kernel_rfl)|(show (_ && _)=true;kernel_rfl))
 all_goals exact⟨_,rfl⟩
theorem f123 (re:Re) (n:Nat) (t:List Int) (at_:Nat) (fuel:Int) (hw:re.wt≤1000000) (hv:validP ⟨re,n,false⟩=0) (hn:n≤1000) (hl:t.length≤65536) (ht:∀ x∈t,0≤x∧x≤255) (hf:0≤fuel∧fuel≤1000000)
  (hr:RGood n 255 re) (hc:lpG re=true) (ha:at_≤t.length) :
  ∃(out:AV) (k e:Int),AV.plain out=true∧(e=0∨e=11)∧(e=0→(costR t re at_:Int)≤fuel)∧∀ H,call Tryz.prog pol1 95 [patAV ⟨re,n,false⟩,.sl false (t.map I),I at_,I (-1),I fuel] H=some (.tup [out,I k,I e],H):=by
 have h137:=f137 re n t fuel hw hv hl ht hf
 have h139:=f139 n hn
 have hs0:SPre fuel (⟨0,false,[],[]⟩:SS):=⟨rfl,⟨Int.le_refl _,hf.1⟩,rfl,by simp⟩
 have hg0:GG n 255 t.length (0:Int) (.mk 0 re 0 0 .nil):=⟨hr,.inl rfl,⟨Int.le_refl _,by omega⟩,trivial⟩
 obtain⟨d,b,s,hrun,hpost,hst⟩:=re_run n 255 t fuel re hr hc 0 0 .nil at_ (fun _=>0) ha (fun j hj=>RT.nil (zD2 t re at_ ha j hj).2) (bare n) ⟨0,false,[],[]⟩ hg0 (by simp;omega) hs0
 have hsum:((outs t re at_).map fun _=>0).sum=0:=by
  induction outs t re at_ with
  | nil=>rfl
  | cons a l ih=>simp[ih]
 rw[hsum]at hst
 have h138:=(box138 [.row 10 [patAV ⟨re,n,false⟩] 0] [] t fuel ⟨0,false,[],[]⟩ 0 (goalC 0 re 0 0 .nil) at_ (bare n) (zBu 0 re 0 0 .nil)).trans
  (run138 hl hf d [.row 10 [patAV ⟨re,n,false⟩] 0] [MB.row 12 [.agg (goalC 0 re 0 0 .nil)] 1] (.mk 0 re 0 0 .nil) at_ (bare n) ⟨0,false,[],[]⟩ b s hg0 (by omega) (by omega) (by simp;omega) hs0 hrun)
 have hcl:=hpost.cl
 have hel:=hpost.el
 have hfu:=hpost.fu
 have heb:=hpost.eb
 obtain⟨steps,empty,ends,caps⟩:=s
 simp only at hcl hel hfu heb hst
 simp only[srH,goalC,goalA,sB,List.length_cons,List.length_nil,List.map_nil,List.cons_append,List.nil_append,Nat.reduceAdd,Nat.zero_add]at h138
 have hpl:=zAu ⟨re,n,false⟩
 have hl8:=zAM re
 have hget8:(reC re++[I n,.bool false])[8]?=some (I n):=by rw[List.getElem?_append_right (by omega),hl8];rfl
 have htk:List.take 10 (reC re++[I n,.bool false])=reC re++[I n,.bool false]:=List.take_of_length_le (by simp[zAM])
 have htk8:∀ l,List.take 8 (reC re++l)=reC re:=fun l=>by
  rw[List.take_append_of_le_length (by omega)];exact List.take_of_length_le (by omega)
 have hall:=zAt re
 subst heb
 cases b with
 | true=>
   refine⟨.sl false [],0,11,rfl,.inr rfl,fun h=>by omega,?_⟩
   refine fun H=>zAS Tryz.func95 rfl rfl rfl rfl rfl rfl (fun _=>rfl) (by simp[AV.plainL,AV.plain,zAE];exact hpl) rfl ?_ H
   simp +contextual (disch:=omega) only[Tryz.f95,dd95,go_sem,simprocAttr,mu95,↓zAD,↓zAC,↓zAB,↓zAA,h137,h139,h138,hl8,hget8,htk,htk8,hall,List.all_append]
   repeat' (first|intro _|apply And.intro|(unfold dOk;kernel_rfl)|exact St.beq_refl _|(show altO _ _ _ _=true;kernel_rfl)|(show (_ || _)=true;kernel_rfl)|(show (_ && _)=true;kernel_rfl))
   all_goals exact⟨_,rfl⟩
 | false=>
   refine⟨.sl false (matsG at_ ends caps ends.length),steps,0,zDm _ _ _ _,.inl rfl,fun _=>by have:=hst rfl;have:=hfu rfl;omega,?_⟩
   refine fun H=>zAS Tryz.func95 rfl rfl rfl rfl rfl rfl (fun _=>rfl) (by simp[AV.plainL,AV.plain,zAE];exact hpl) (by simp[AV.plain,AV.plainL,zDm]) ?_ H
   simp +contextual (disch:=omega) only[Tryz.f95,dd95,go_sem,simprocAttr,mu95,↓zAD,↓zAC,↓zAB,↓zAA,h137,h139,h138,hl8,hget8,htk,htk8,hall,List.all_append]
   repeat' (first|intro _|apply And.intro|(unfold dOk;kernel_rfl)|exact St.beq_refl _|(show altO _ _ _ _=true;kernel_rfl)|(show (_ || _)=true;kernel_rfl)|(show (_ && _)=true;kernel_rfl))
   have u1:∀ m,AV.underL m (reC re)=true:=fun m=>zAF _ _ (zAc re)
   have hE:ends.length≤300000000:=by have:=hfu rfl;simp only[List.length_nil]at hel;omega
   refine zAe (M:=(mskOf (pol1.mask 95) (pol1.gc 95) (pol1.acts 95) 0 12)) rfl ends.length (fun j=>(⟨84,[(16,I j),(15,.ms 5 3 j 0 j),(14,.rf 1 1 0 0),(2,I at_)],[.row 10 [patAV ⟨re,n,false⟩] 0,
    .row 7 [.agg [.sl false (t.map I),I (-1),I fuel,I steps,.bool false,.ms 2 1 ends.length 0 ends.length,.ms 3 1 ends.length 0 ends.length]] 0,.row 1 (ends.map I) 0,.row 1 (caps.map capA) 0,
    .row 12 [.agg (goalC 0 re 0 0 .nil)] 1,.row 3 (matsG at_ ends caps j) 0]⟩:St)) (fun _=>True) ?_ ?_ trivial _ ?_
   ·intro j hj _
    obtain⟨a,ha⟩:∃ a,ends[j]?=some a:=⟨_,List.getElem?_eq_getElem (by omega)⟩
    obtain⟨c,hc⟩:∃ c,caps[j]?=some c:=⟨_,List.getElem?_eq_getElem (by omega)⟩
    have hm:=matsG_len at_ ends caps j
    have hpm:=zDm at_ ends caps j
    rw[matsG_succ,List.getD_eq_getElem?_getD,List.getD_eq_getElem?_getD,ha,hc]
    simp only[Option.getD_some]
    generalize matsG at_ ends caps j=ms at *
    have htk:List.take j ms=ms:=List.take_of_length_le (by omega)
    simp +contextual (disch:=omega) only[Tryz.f95,dd95,go_sem,simprocAttr,mu95,↓zAD,↓zAC,↓zAB,↓zAA,ha,hc,hm,hcl,matAV,htk]
    repeat' (first|intro _|apply And.intro|(unfold dOk;kernel_rfl)|exact St.beq_refl _|(show altO _ _ _ _=true;kernel_rfl)|(show (_ || _)=true;kernel_rfl)|(show (_ && _)=true;kernel_rfl))
    all_goals (refine zAX (n:=6) (m:=⟨some [16,15,14,2],some 6,[]⟩) rfl rfl ?_ ?_ ?_<;>simp[keepT,AV.underL,AV.under,MB.under,zAF,zAJ,zAK,zAE,zAG,-List.map_take,u1,zFH,hpm,htk]<;>rfl)
   ·intro _
    have hm:=matsG_len at_ ends caps ends.length
    have hpm:=zDm at_ ends caps ends.length
    generalize matsG at_ ends caps ends.length=ms at *
    simp +contextual (disch:=omega) only[Tryz.f95,dd95,go_sem,simprocAttr,mu95,↓zAD,↓zAC,↓zAB,↓zAA,hm]
    repeat' (first|intro _|apply And.intro|(unfold dOk;kernel_rfl)|exact St.beq_refl _|(show altO _ _ _ _=true;kernel_rfl)|(show (_ || _)=true;kernel_rfl)|(show (_ && _)=true;kernel_rfl))
    simp only[fz,zEj,fzL,zD5]
    rw[zDJ (els:=ms) (k:=3) (z:=0) rfl hm hpm]
    exact⟨_,rfl⟩
   ·refine zA0 rfl (by rfl) (by rfl) (by rfl) ?_ ?_<;>simp[AV.underL,AV.under,MB.under,zAF,zAJ,zAE,zAG,zFH,zAK,u1,-List.map_take]
    all_goals exact⟨rfl,rfl⟩
end
section
attribute [local go_sem] evAppend List.length_append List.map_append
open Go.Proofs Go.RowKit Go.IntWalk
set_option maxRecDepth 100000
set_option maxHeartbeats 8000000
def compP (p:Pat):Prg×Int:=
 if validP p=0 then
  if compG [] p.re=true then
   if lenG p.re+1≤8192 then(⟨codeG p.re 0++[⟨0,0,0,0,[]⟩],p.caps,p.runes⟩,0) else(⟨[],0,false⟩,4)
  else(⟨[],0,false⟩,10)
 else(⟨[],0,false⟩,validP p)
theorem zCn {p:Pat} (h:validP p=0):p.re.size≤256∧p.re.depth≤24∧0≤p.caps∧p.caps≤9∧wholeG p.caps (topI p.runes) p.re=true:=by
 unfold validP at h
 split at h
 ·cases h
 ·split at h
  ·cases h
  ·rename_i h1 h2
   cases hw:wholeG p.caps (topI p.runes) p.re with
   | true=>exact⟨by omega,by omega,by omega,by omega,rfl⟩
   | false=>exact absurd (.inr (.inr hw)) h2
theorem f53n (caps top:Int) (r:Re) (hN:r.wt≤1000000) (hw:wholeG caps top r=true) (H:List MB):call Tryz.prog pol1 61 [reAV r,.sl true []] H=some (.bool (compG [] r),H):=by
 rw[← f53 caps top r.wt r [] (Nat.le_refl _) hN (by simp;omega) hw H]
 refine call_frz' rfl ?_ (by simp[AV.plain,AV.plainL,zAc])
 have hby:∀ i,pol1.byref 61 i=false:=fun i=>rfl
 have hz:fz (reAV r) H=some (reAV r,H):=zAh _ (by simp[AV.plain,zAc])
 have h2:fz (.sl true []) H=some (.sl false [],H):=rfl
 simp only[frzArgs,hby,Bool.false_eq_true,if_false,hz,h2,List.map_nil]
theorem fin_prg {H:List MB} {id n:Nat} {els:List AV} {c:List Ins} (caps:Int) (runes:Bool) (hl:els.length=n) (hk:∀ j H,fzL j els H=some (c.map insAV,H)) (hr:getRow H id=some (5,els,0)) :
  ∃ H',fz (.tup [.agg [.ms id 5 n 0 n,I caps,.bool runes],I 0]) H=some (.tup [prgAV ⟨c,caps,runes⟩,I 0],H'):=by
 have h2:fzA (fzJ 6) (.ms id 5 n 0 n) H=some (.sl false (c.map insAV),mark H id n):=by
  have:=fzA_ms (n:=5) (off:=0) (len:=n) (ys:=c.map insAV) (H':=mark H id (0+n)) hr hl (by omega) (by rw[List.drop_zero,List.take_of_length_le (by omega)];exact hk _ _)
  rwa [Nat.zero_add]at this
 refine⟨mark H id n,?_⟩
 simp only[fz,zEj,zH4,fzL,h2,zD5]
 rfl
end
section
attribute [local go_sem] List.length_append
open Go.Proofs Go.RowKit Go.IntWalk
set_option maxRecDepth 100000
set_option maxHeartbeats 8000000
theorem app_oneP {H:List MB} {i n z:Nat} {els:List AV} {y:AV} {t:Bool} (hi:getRow H i=some (5,els,z)) (hn:els.length=n) (hy:(decide (y.cells.length=5) && y.cells.all AV.ok)=true) (hz:z≤n) (hr:n+1≤4000000000) :
  evAppend Tryz.prog H 33 33 (.ms i 5 n 0 n) (.sl t [y])=some (.ms i 5 (n+1) 0 (n+1),H.set i (.row 5 (els++[y]) z)):=by
 have hs:srcElems Tryz.prog H 70 (.sl t [y])=some [y]:=rfl
 rw[zBV (e:=70) (by kernel_rfl) (by kernel_rfl) (k:=5) (by kernel_rfl) (by_:=56) (by kernel_rfl) (ze:=.agg [I 0,I 0,I 0,I 0,.sl true []]) (by kernel_rfl) rfl (by omega) hs (by simp only[List.all_cons,List.all_nil,hy,Bool.and_true]) hi hn hz (zAZ hr (by omega))]
 rfl
theorem zGH:∀(n:Nat) (l m:List MB),keptOk n l (l++m)=true
 | _,[],_=>rfl
 | n,x::xs,m=>by simp[keptOk,MB.beq_refl,zGH n xs m]
theorem zAd {α:Type} (K:List α) (b:α):(K++[b])[K.length]?=some b:=by simp
theorem zAg {α:Type} (K:List α) (b c:α):(K++[b]).set K.length c=K++[c]:=by simp
abbrev codeH (C:List Ins) (n:Nat) (R:List MB):List MB:=.row 1 [.ms 1 5 n 0 n] 0::.row 5 (C.map insAV) 0::R
theorem zGD {C C':List Ins} {n n' m:Nat} {R S:List MB} (hm:2≤m):keptOk m (codeH C n R) (codeH C' n' (R++S))=true:=by
 simp[keptOk,zGH,MB.under,AV.underL,AV.under,zAF _ _ (zAH C')]
 omega
theorem zGm (a b c d:Int) (t:Bool) (s:List (Int×Int)) (C:List Ins) (n:Nat) (R:List MB) (hn:C.length=n) (hb:n≤1000000) :
  call Tryz.prog pol1 89 [.agg [I a,I b,I c,I d,.sl t (s.map spanAV)],.rf 0 1 0 0] (codeH C n R)=some (I n,codeH (C++[⟨a,b,c,d,s⟩]) (n+1) R):=by
 have fr:frzArgs pol1 89 0 [.agg [I a,I b,I c,I d,.sl t (s.map spanAV)],.rf 0 1 0 0] (codeH C n R)=some ([.agg [I a,I b,I c,I d,.sl false (s.map spanAV)],.rf 0 1 0 0],codeH C n R):=by
  have h0:pol1.byref 89 0=false:=rfl
  have h1:pol1.byref 89 1=true:=rfl
  have h2:∀ H,fzL (fzJ 6) (s.map spanAV) H=some (s.map spanAV,H):=fun H=>zBU _ _ H (zAG s)
  simp only[frzArgs,h0,h1,Bool.false_eq_true,if_false,if_true,fz,fzA,fzL,h2]
 refine zAV (pol:=pol1) Tryz.func89 rfl rfl rfl rfl fr ?_
 have hap:=fun X=>app_oneP (H:=codeH C n (R++[X])) (i:=1) (n:=n) (t:=true) (y:=insAV ⟨a,b,c,d,s⟩) rfl (by rw[List.length_map];exact hn) rfl (Nat.zero_le _) (by omega)
 have hmp:C.map insAV++[insAV ⟨a,b,c,d,s⟩]=(C++[(⟨a,b,c,d,s⟩:Ins)]).map insAV:=by simp
 simp +contextual (disch:=omega) only[Tryz.f89,dd89,go_sem,simprocAttr,mu89,↓zAD,↓zAC,↓zAB,↓zAA,hap,zAd,zAg,hmp]
 refine zA1 rfl rfl rfl (zGD (by simp)) (by simp)
end
section
attribute [local go_sem] evAppend List.length_append
open Go.Proofs Go.RowKit Go.IntWalk
set_option maxRecDepth 100000
set_option maxHeartbeats 8000000
theorem f109z (x y md:Int) (H:List MB):call Tryz.prog pol1 91 [I x,I y,I md] H=some (insAV (insSplit md x y),H):=by
 refine zAS Tryz.func91 rfl rfl rfl rfl rfl rfl (fun _=>rfl) rfl (by simp[AV.plain,AV.plainL,zAG]) ?_ H
 by_cases h:md=1
 ·subst h
  simp +contextual (disch:=omega) only[Tryz.f91,dd91,go_sem,simprocAttr,List.map_append,mu91,↓zAD,↓zAC,↓zAB,↓zAA]
  exact⟨_,rfl⟩
 ·rw[insSplit,if_neg h]
  simp +contextual (disch:=omega) only[Tryz.f91,dd91,go_sem,simprocAttr,List.map_append,mu91,↓zAD,↓zAC,↓zAB,↓zAA]
  exact⟨_,rfl⟩
theorem cloneX (l:List (Int×Int)) (hl:l.length≤1000000):(((l.map spanAV).all fun y=>decide (y.cells.length=2) && y.cells.all AV.ok)=true∧roomFor (l.map spanAV).length 16=true∧AV.plainL (l.map spanAV)=true):=by
 refine⟨?_,zAZ (by rw[List.length_map];omega) (by omega),zAG l⟩
 rw[List.all_eq_true]
 intro x hx
 obtain⟨i,_,rfl⟩:=List.mem_map.1 hx
 rfl
theorem f92 (l:List (Int×Int)) (hl:l.length≤1000000) (b:MB) (H:List MB):call Tryz.prog pol1 38 [.sl false (l.map spanAV)] (b::H)=some (.sl false (l.map spanAV),b::H):=by
 rw[zBD]
 unfold evStep
 have hx:cloneExt 2 16 [.sl false (l.map spanAV)] (b::H)=some (.sl false (l.map spanAV),b::H):=by
  simp only[cloneExt,elemsOf]
  rw[if_pos (cloneX l hl)]
 rw[if_neg (show ¬ pol1.pure 38=true by decide)]
 exact hx
abbrev cS (K:List MB) (C:List Ins) (n:Nat):List MB:=codeH C n (.row 1 [.clo 89 [.rf 0 1 0 0]] 0::.row 1 [.clo 93 [.rf 2 1 0 0,.rf 3 1 0 0,.rf 5 1 0 0,.rf 4 1 0 0]] 0::.row 1 [.clo 90 [.rf 3 1 0 0,.rf 2 1 0 0,.rf 0 1 0 0]] 0::.row 1 [.clo 92 [.rf 2 1 0 0,.rf 3 1 0 0,.rf 0 1 0 0]] 0::K)
def Does111 (r:Re):Prop:=∀(K:List MB) (C:List Ins) (n:Nat),C.length=n→n+lenG r≤100000→lenG r≤8192 →
 call Tryz.prog pol1 93 [.pt (reC r),.rf 2 1 0 0,.rf 3 1 0 0,.rf 5 1 0 0,.rf 4 1 0 0] (cS K C n)=some (.tup [],cS K (C++codeG r n) (n+lenG r))
def Does108 (r:Re):Prop:=∀(K:List MB) (C:List Ins) (n:Nat),C.length=n→n+lenG r≤100000→lenG r≤8192 →
 call Tryz.prog pol1 90 [.pt (reC r),.rf 3 1 0 0,.rf 2 1 0 0,.rf 0 1 0 0] (cS K C n)=some (.tup [],cS K (C++codeG r n) (n+lenG r))
def Does110 (l:List Re):Prop:=∀(K:List MB) (C:List Ins) (n:Nat),C.length=n→n+lenL l+2 * (l.length - 1)≤100000→lenL l+2 * (l.length - 1)≤8192 →
 call Tryz.prog pol1 92 [.sl false (l.map reAV),.rf 2 1 0 0,.rf 3 1 0 0,.rf 0 1 0 0] (cS K C n)=some (.tup [],cS K (C++codeAlt l n) (n+lenL l+2 * (l.length - 1)))
theorem f111_of (caps top:Int) (hcaps:caps≤1000):∀ r:Re,r.wt≤1000000→GoodC caps top r→(∀ op set kids mn mx md n neg,r=.mk op set kids mn mx md n neg→(op=4→Does108 r)∧(op=3→Does110 kids)∧∀ k∈kids,Does111 k)→Does111 r
 | .mk op set kids mn mx md n neg,hN,hw,hk=>by
   obtain⟨d108,d110,ih⟩:=hk _ _ _ _ _ _ _ _ rfl
   intro K C m hC hb hl
   have hkl:=Re.wtL_len kids
   have hwt:1+set.length+Re.wtL kids=(Re.mk op set kids mn mx md n neg).wt:=by simp[Re.wt]
   have hop:=hw.op
   have hlen:=zBG caps top _ m hw
   obtain⟨hwk,hkd,hrp,hnn,ho1,ho2⟩:=zAy hw.whole
   have hgk:=hw.kids
   have hrc:(.pt (reC (.mk op set kids mn mx md n neg)):AV)=.pt (nodeL op set kids mn mx md n neg):=congrArg AV.pt zCm
   have fr:∀ H,frzArgs pol1 93 0 [.pt (nodeL op set kids mn mx md n neg),.rf 2 1 0 0,.rf 3 1 0 0,.rf 5 1 0 0,.rf 4 1 0 0] H=some ([.pt (nodeL op set kids mn mx md n neg),.rf 2 1 0 0,.rf 3 1 0 0,.rf 5 1 0 0,.rf 4 1 0 0],H):=fun H=>
    zAR _ _ _ (by simp[mixOk,show pol1.byref 93 1=true from rfl,show pol1.byref 93 2=true from rfl,show pol1.byref 93 3=true from rfl,show pol1.byref 93 4=true from rfl,AV.plain,AV.plainL,zAG,zAL])
   have h107:=zGm
   rw[hrc]
   refine zAV (pol:=pol1) Tryz.func93 rfl rfl rfl rfl (fr _) ?_
   have rt:∀ C' n',retPol pol1 93 (cS K C m) (.tup []) (cS K C' n')=some (.tup [],cS K C' n'):=fun C' n'=>
    zA1 rfl rfl rfl (by have:=@zGD C C' m n' (cS K C m).length (.row 1 [.clo 89 [.rf 0 1 0 0]] 0::.row 1 [.clo 93 [.rf 2 1 0 0,.rf 3 1 0 0,.rf 5 1 0 0,.rf 4 1 0 0]] 0::.row 1 [.clo 90 [.rf 3 1 0 0,.rf 2 1 0 0,.rf 0 1 0 0]] 0::.row 1 [.clo 92 [.rf 2 1 0 0,.rf 3 1 0 0,.rf 0 1 0 0]] 0::K) [] (by simp);simpa using this) (by simp)
   rcases hop with rfl|rfl|rfl|rfl|rfl|rfl|rfl
   ·have hk0:kids=[]:=List.length_eq_zero_iff.1 (by simpa [kidsG] using hkd)
    subst hk0
    have hc:codeG (.mk 0 set [] mn mx md n neg) m=[]:=by rw[codeG];rfl
    rw[← hlen,hc,List.append_nil]
    simp +contextual (disch:=omega) only[Tryz.f93,dd93,go_sem,simprocAttr,mu93,↓zAD,↓zAC,↓zAB,↓zAA]
    exact rt C m
   ·have hc:codeG (.mk 1 set kids mn mx md n neg) m=[⟨1,0,0,0,set⟩]:=by rw[codeG];rfl
    have h1:=fun R=>zGm 1 0 0 0 false set C m R hC (by omega)
    have h92:=f92 set (by omega)
    rw[← hlen,hc]
    simp +contextual (disch:=omega) only[Tryz.f93,dd93,go_sem,simprocAttr,mu93,↓zAD,↓zAC,↓zAB,↓zAA,h1,h92]
    repeat' (first|intro _|apply And.intro|(unfold dOk;kernel_rfl)|exact St.beq_refl _|(show altO _ _ _ _=true;kernel_rfl)|(show (_ || _)=true;kernel_rfl)|(show (_ && _)=true;kernel_rfl))
    exact rt _ _
   ·have hc:codeG (.mk 2 set kids mn mx md n neg) m=codeCat kids m:=by rw[codeG];rfl
    have hL:lenG (.mk 2 set kids mn mx md n neg)=lenL kids:=by rw[lenG];rfl
    rw[hL]at hl hb hlen ⊢
    rw[hc]at hlen ⊢
    simp +contextual (disch:=omega) only[Tryz.f93,dd93,go_sem,simprocAttr,mu93,↓zAD,↓zAC,↓zAB,↓zAA]
    refine zAe (M:=(mskOf (pol1.mask 93) (pol1.gc 93) (pol1.acts 93) 0 7)) rfl kids.length (fun i=>(⟨89,[(37,I i),(36,I kids.length),(2,.rf 3 1 0 0),(0,.pt (nodeL 2 set kids mn mx md n neg))],cS K (C++codeCat (kids.take i) m) (m+lenL (kids.take i))⟩:St)) (fun _=>True) ?_ ?_ trivial _ ?_
    ·intro i hi _
     obtain⟨k,hk⟩:∃ k,kids[i]?=some k:=⟨_,List.getElem?_eq_getElem hi⟩
     have hkm:=List.mem_of_getElem? hk
     have hl8:=zAM k
     have ht8:=zAU k
     have e1:=zE3 hk
     have e2:=codeCat_take hk m
     have e4:=zFW kids (i+1)
     have hck:=zEn caps top (kids.take i) m (fun k h=>hgk k (List.mem_of_mem_take h))
     have h2:=ih k hkm K (C++codeCat (kids.take i) m) (m+lenL (kids.take i)) (by simp[hC,hck]) (by omega) (by omega)
     simp +contextual (disch:=omega) only[Tryz.f93,dd93,go_sem,simprocAttr,mu93,↓zAD,↓zAC,↓zAB,↓zAA,hk,h2,hl8,ht8]
     rw[e1,e2,← List.append_assoc,← Nat.add_assoc]
     repeat' (first|intro _|apply And.intro|(unfold dOk;kernel_rfl)|exact St.beq_refl _|(show altO _ _ _ _=true;kernel_rfl)|(show (_ || _)=true;kernel_rfl)|(show (_ && _)=true;kernel_rfl))
     rfl
    ·intro _
     rw[List.take_length]
     simp +contextual (disch:=omega) only[Tryz.f93,dd93,go_sem,simprocAttr,mu93,↓zAD,↓zAC,↓zAB,↓zAA]
     exact rt _ _
    ·skip
     simp[codeCat,lenL]
     rfl
   ·have hc:codeG (.mk 3 set kids mn mx md n neg) m=codeAlt kids m:=by rw[codeG];rfl
    have hL:lenG (.mk 3 set kids mn mx md n neg)=lenL kids+2 * (kids.length - 1):=by rw[lenG,if_neg (by omega),if_pos rfl]
    rw[hL]at hl hb hlen ⊢
    rw[hc]at hlen ⊢
    have h1:=d110 rfl K C m hC (by omega) hl
    rw[Nat.add_assoc]at h1
    simp +contextual (disch:=omega) only[Tryz.f93,dd93,go_sem,simprocAttr,mu93,↓zAD,↓zAC,↓zAB,↓zAA,h1]
    repeat' (first|intro _|apply And.intro|(unfold dOk;kernel_rfl)|exact St.beq_refl _|(show altO _ _ _ _=true;kernel_rfl)|(show (_ || _)=true;kernel_rfl)|(show (_ && _)=true;kernel_rfl))
    exact rt _ _
   ·have h1:=d108 rfl K C m hC hb hl
    rw[hrc]at h1
    simp +contextual (disch:=omega) only[Tryz.f93,dd93,go_sem,simprocAttr,mu93,↓zAD,↓zAC,↓zAB,↓zAA,h1]
    repeat' (first|intro _|apply And.intro|(unfold dOk;kernel_rfl)|exact St.beq_refl _|(show altO _ _ _ _=true;kernel_rfl)|(show (_ || _)=true;kernel_rfl)|(show (_ && _)=true;kernel_rfl))
    exact rt _ _
   ·obtain⟨k,rfl⟩:∃ k,kids=[k]:=List.length_eq_one_iff.1 (by simpa [kidsG] using hkd)
    have hn1:=hnn (.inl rfl)
    have hc:codeG (.mk 5 set [k] mn mx md n neg) m=[⟨4,0,0,2 * n - 2,[]⟩]++codeG k (m+1)++[⟨4,0,0,2 * n - 1,[]⟩]:=by rw[codeG];rfl
    have hL:lenG (.mk 5 set [k] mn mx md n neg)=1+lenG k+1:=by
     rw[lenG,if_neg (by omega),if_neg (by omega),if_pos rfl];simp[lenL];omega
    rw[hL]at hlen hl hb ⊢
    have hl8:=zAM k
    have ht8:=zAU k
    have hk5:=zBG caps top k (m+1) (hgk k (List.mem_singleton.2 rfl))
    have h1:=fun R=>zGm 4 0 0 (2 * n - 2) true [] C m R hC (by omega)
    have h2:=ih k (List.mem_singleton.2 rfl) K (C++[⟨4,0,0,2 * n - 2,[]⟩]) (m+1) (by simp[hC]) (by omega) (by omega)
    have h3:=fun R=>zGm 4 0 0 (2 * n - 1) true [] (C++[⟨4,0,0,2 * n - 2,[]⟩]++codeG k (m+1)) (m+1+lenG k) R (by simp[hC,hk5];omega) (by omega)
    have ha:C++([⟨4,0,0,2 * n - 2,[]⟩]++codeG k (m+1)++[⟨4,0,0,2 * n - 1,[]⟩])=C++[⟨4,0,0,2 * n - 2,[]⟩]++codeG k (m+1)++[⟨4,0,0,2 * n - 1,[]⟩]:=by simp
    have hm:m+(1+lenG k+1)=m+1+lenG k+1:=by omega
    rw[hc,ha,hm]
    simp only[List.map_nil]at h1 h3
    generalize codeG k (m+1)=B at *
    simp +contextual (disch:=omega) only[Tryz.f93,dd93,go_sem,simprocAttr,mu93,↓zAD,↓zAC,↓zAB,↓zAA,h1,h2,h3,hl8,ht8]
    repeat' (first|intro _|apply And.intro|(unfold dOk;kernel_rfl)|exact St.beq_refl _|(show altO _ _ _ _=true;kernel_rfl)|(show (_ || _)=true;kernel_rfl)|(show (_ && _)=true;kernel_rfl))
    exact rt _ _
   ·have hc:codeG (.mk 11 set kids mn mx md n neg) m=[⟨5,0,0,n,[]⟩]:=by rw[codeG];rfl
    have h1:=fun R=>zGm 5 0 0 n true [] C m R hC (by omega)
    simp only[List.map_nil]at h1
    rw[← hlen,hc]
    simp +contextual (disch:=omega) only[Tryz.f93,dd93,go_sem,simprocAttr,mu93,↓zAD,↓zAC,↓zAB,↓zAA,h1]
    repeat' (first|intro _|apply And.intro|(unfold dOk;kernel_rfl)|exact St.beq_refl _|(show altO _ _ _ _=true;kernel_rfl)|(show (_ || _)=true;kernel_rfl)|(show (_ && _)=true;kernel_rfl))
    exact rt _ _
end
section
attribute [local go_sem] evAppend List.length_append List.map_append
open Go.Proofs Go.RowKit Go.IntWalk
set_option maxRecDepth 100000
set_option maxHeartbeats 8000000
theorem fzs_set (C:List Ins) (a b c d:Int) (t:Bool):∀(i:Nat) (H:List MB),fzs ((C.map insAV).set i (.agg [I a,I b,I c,I d,.sl t []])) H=some ((C.set i ⟨a,b,c,d,[]⟩).map insAV,H):=by
 have key:∀(C:List Ins) (i:Nat),KeepL (fzJ 6) ((C.map insAV).set i (.agg [I a,I b,I c,I d,.sl t []])) ((C.set i ⟨a,b,c,d,[]⟩).map insAV):=by
  intro C
  induction C with
  | nil=>intro i;exact .nil
  | cons x C ih=>
    intro i
    cases i with
    | zero=>exact .cons (fun H=>rfl) (zHx C)
    | succ i=>exact .cons (fun H=>zE8 _ _ H (by simp[AV.plain,AV.plainL,zAG])) (ih i)
 intro i H
 exact(key C i).fz H
def altM (e:Int):List Re→Nat→Nat→List Ins
 | [],_,_=>[]
 | k::ks,f,j=>if ks.length=0 then codeG k f else⟨2,(f+1:Nat),(f+lenG k+2:Nat),0,[]⟩::(codeG k (f+1)++(⟨3,if 0 < j then e else 0,0,0,[]⟩::altM e ks (f+lenG k+2) (j - 1)))
def altP:List Re→Nat→Nat→List Ins
 | k::ks,f,i+1=>⟨2,(f+1:Nat),(f+lenG k+2:Nat),0,[]⟩::(codeG k (f+1)++(⟨3,0,0,0,[]⟩::altP ks (f+lenG k+2) i))
 | _,_,_=>[]
def jumpsP:List Re→Nat→Nat→List Nat
 | k::ks,f,i+1=>(f+1+lenG k)::jumpsP ks (f+lenG k+2) i
 | _,_,_=>[]
theorem zGg (l:List Re) (f:Nat):altP l f 0=[]:=by cases l<;>rfl
theorem zGI (l:List Re) (f:Nat):jumpsP l f 0=[]:=by cases l<;>rfl
theorem altP_succ:∀(l:List Re) (f i:Nat) (k:Re),l[i]?=some k→altP l f (i+1)=altP l f i++(⟨2,(f+lenL (l.take i)+2 * i+1:Nat),(f+lenL (l.take i)+2 * i+lenG k+2:Nat),0,[]⟩::(codeG k (f+lenL (l.take i)+2 * i+1)++[⟨3,0,0,0,[]⟩]))
 | [],_,i,_,h=>by cases h
 | q::ks,f,0,k,h=>by
   simp only[List.getElem?_cons_zero,Option.some.injEq]at h
   subst h
   simp[altP,zGg,lenL]
 | q::ks,f,i+1,k,h=>by
   rw[List.getElem?_cons_succ]at h
   have ih:=altP_succ ks (f+lenG q+2) i k h
   have e1:f+lenG q+2+lenL (ks.take i)+2 * i=f+lenL ((q::ks).take (i+1))+2 * (i+1):=by rw[List.take_succ_cons,lenL];omega
   rw[e1]at ih
   rw[altP,ih]
   conv=>rhs;rw[altP]
   simp
theorem zGJ:∀(l:List Re) (f i:Nat) (k:Re),l[i]?=some k→jumpsP l f (i+1)=jumpsP l f i++[f+lenL (l.take i)+2 * i+1+lenG k]
 | [],_,i,_,h=>by cases h
 | q::ks,f,0,k,h=>by
   simp only[List.getElem?_cons_zero,Option.some.injEq]at h
   subst h
   simp[jumpsP,zGI,lenL]
 | q::ks,f,i+1,k,h=>by
   rw[List.getElem?_cons_succ]at h
   have ih:=zGJ ks (f+lenG q+2) i k h
   have e1:f+lenG q+2+lenL (ks.take i)+2 * i=f+lenL ((q::ks).take (i+1))+2 * (i+1):=by rw[List.take_succ_cons,lenL];omega
   rw[e1]at ih
   rw[jumpsP,ih]
   conv=>rhs;rw[jumpsP]
   simp
theorem zFJ:∀(l:List Re) (f i:Nat),i≤l.length→(jumpsP l f i).length=i
 | [],_,i,h=>by
   have:i=0:=by simpa using h
   subst this;rfl
 | q::ks,f,0,h=>rfl
 | q::ks,f,i+1,h=>by simp[jumpsP,zFJ ks _ i (by simpa using h)]
theorem altP_len (caps top:Int):∀(l:List Re) (f i:Nat),(∀ k∈l,GoodC caps top k)→i≤l.length→(altP l f i).length=lenL (l.take i)+2 * i
 | [],_,i,_,h=>by
   have:i=0:=by simpa using h
   subst this;rfl
 | q::ks,f,0,hg,h=>rfl
 | q::ks,f,i+1,hg,h=>by
   simp only[altP,List.length_cons,List.length_append,altP_len caps top ks _ i (fun k h=>hg k (List.mem_cons_of_mem _ h)) (by simpa using h),zBG caps top q _ (hg q (List.mem_cons_self ..)),List.take_succ_cons,lenL]
   omega
theorem altM_zero (e:Int):∀(l:List Re) (f:Nat) (k:Re),l[l.length - 1]?=some k→altM e l f 0=altP l f (l.length - 1)++codeG k (f+lenL (l.take (l.length - 1))+2 * (l.length - 1))
 | [],_,_,h=>by cases h
 | [q],f,k,h=>by
   simp at h
   subst h
   simp[altM,zGg,lenL]
 | q::q2::ks,f,k,h=>by
   have h2:(q2::ks)[(q2::ks).length - 1]?=some k:=by simpa using h
   have ih:=altM_zero e (q2::ks) (f+lenG q+2) k h2
   have e0:(q::q2::ks).length - 1=((q2::ks).length - 1)+1:=by simp
   have e1:f+lenG q+2+lenL ((q2::ks).take ((q2::ks).length - 1))+2 * ((q2::ks).length - 1)=f+lenL ((q::q2::ks).take ((q::q2::ks).length - 1))+2 * ((q::q2::ks).length - 1):=by
    rw[e0,List.take_succ_cons,lenL];omega
   rw[e1]at ih
   rw[altM,if_neg (by simp),ih,e0,altP]
   simp
theorem altM_all (e:Int):∀(l:List Re) (f j:Nat),l.length≤j+1→e=(f+lenL l+2 * (l.length - 1):Nat)→altM e l f j=codeAlt l f
 | [],_,_,_,_=>rfl
 | k::ks,f,j,h,he=>by
   rw[altM,codeAlt]
   split
   ·rfl
   ·rename_i h0
    have hj:0 < j:=by simp at h;omega
    have e2:e=(f+lenG k+2+lenL ks+2 * (ks.length - 1):Nat):=by rw[he,lenL];simp only[List.length_cons];omega
    have e3:e=(f+lenL (k::ks)+2 * ks.length:Nat):=by rw[he];simp only[List.length_cons];omega
    rw[if_pos hj,altM_all e ks (f+lenG k+2) (j - 1) (by simp at h;omega) e2,← e3]
theorem altM_set (caps top e:Int):∀(l:List Re) (f j p:Nat),(∀ k∈l,GoodC caps top k)→(jumpsP l f (l.length - 1))[j]?=some p→f≤p∧(altM e l f j)[p - f]?=some ⟨3,0,0,0,[]⟩∧(altM e l f j).set (p - f) ⟨3,e,0,0,[]⟩=altM e l f (j+1)
 | [],_,_,_,_,h=>by cases h
 | [q],f,j,p,_,h=>by simp[jumpsP]at h
 | q::q2::ks,f,j,p,hg,h=>by
   have hq:=zBG caps top q (f+1) (hg q (List.mem_cons_self ..))
   rw[show (q::q2::ks).length - 1=((q2::ks).length - 1)+1 by simp,jumpsP]at h
   cases j with
   | zero=>
     simp only[List.getElem?_cons_zero,Option.some.injEq]at h
     subst h
     have hp:f+1+lenG q - f=(codeG q (f+1)).length+1:=by omega
     refine⟨by omega,?_,?_⟩
     ·rw[altM,if_neg (by simp),hp,List.getElem?_cons_succ,List.getElem?_append_right (Nat.le_refl _),Nat.sub_self];rfl
     ·rw[altM,if_neg (by simp),hp,List.set_cons_succ,List.set_append_right _ _ (Nat.le_refl _),Nat.sub_self]
      conv=>rhs;rw[altM,if_neg (by simp)]
      rfl
   | succ j=>
     rw[List.getElem?_cons_succ]at h
     obtain⟨h1,h2,h3⟩:=altM_set caps top e (q2::ks) (f+lenG q+2) j p (fun k h=>hg k (List.mem_cons_of_mem _ h)) h
     have hp:p - f=(codeG q (f+1)).length+((p - (f+lenG q+2))+1)+1:=by omega
     refine⟨by omega,?_,?_⟩
     ·rw[altM,if_neg (by simp),hp,List.getElem?_cons_succ,List.getElem?_append_right (by omega),Nat.add_sub_cancel_left,List.getElem?_cons_succ]
      exact h2
     ·rw[altM,if_neg (by simp),hp,List.set_cons_succ,List.set_append_right _ _ (by omega),Nat.add_sub_cancel_left,List.set_cons_succ]
      conv=>rhs;rw[altM,if_neg (by simp)]
      rw[show j+1 - 1=j from rfl,show j+1+1 - 1=j+1 from rfl,h3]
      simp
end
section
open Go.Proofs Go.RowKit Go.IntWalk
set_option maxRecDepth 100000
set_option maxHeartbeats 8000000
theorem app_int {H:List MB} {i n z:Nat} {els:List AV} {x:Int} {t:Bool} (hi:getRow H i=some (1,els,z)) (hn:els.length=n) (hz:z≤n) (hr:n+1≤4000000000) :
  evAppend Tryz.prog H 22 22 (.ms i 1 n 0 n) (.sl t [I x])=some (.ms i 1 (n+1) 0 (n+1),H.set i (.row 1 (els++[I x]) z)):=by
 have hs:srcElems Tryz.prog H 3 (.sl t [I x])=some [I x]:=rfl
 rw[zBV (e:=3) (by kernel_rfl) (by kernel_rfl) (k:=1) (by kernel_rfl) (by_:=8) (by kernel_rfl) (ze:=I 0) (by kernel_rfl) rfl (by omega) hs rfl hi hn hz (zAZ hr (by omega))]
 rfl
theorem app_last {K:List MB} {C:List Ins} {m n:Nat} {els:List AV} {x:Int} (hn:els.length=n) (hr:n+1≤4000000000) :
  evAppend Tryz.prog (cS (K++[.row 1 els 0]) C m) 22 22 (.ms (K.length+1+1+1+1+1+1) 1 n 0 n) (.sl true [I x])=some (.ms (K.length+1+1+1+1+1+1) 1 (n+1) 0 (n+1),cS (K++[.row 1 (els++[I x]) 0]) C m):=by
 rw[app_int (z:=0) (els:=els) (by simp[getRow]) hn (by omega) hr]
 simp
theorem rt_last {f:Nat} {K:List MB} {C:List Ins} {n:Nat} (C':List Ins) (n':Nat) (b:MB) (hk:pol1.keep f=false) (ho:pol1.own f=false):retPol pol1 f (cS K C n) (.tup []) (cS (K++[b]) C' n')=some (.tup [],cS K C' n'):=
 zA1 hk ho rfl (zGD (C:=C) (C':=C') (n:=n) (n':=n') (R:=.row 1 [.clo 89 [.rf 0 1 0 0]] 0::.row 1 [.clo 93 [.rf 2 1 0 0,.rf 3 1 0 0,.rf 5 1 0 0,.rf 4 1 0 0]] 0::.row 1 [.clo 90 [.rf 3 1 0 0,.rf 2 1 0 0,.rf 0 1 0 0]] 0::.row 1 [.clo 92 [.rf 2 1 0 0,.rf 3 1 0 0,.rf 0 1 0 0]] 0::K) (S:=[b]) (by simp)) (by simp)
theorem f110_of (caps top:Int) (l:List Re) (hl2:2≤l.length) (hl3:l.length≤1000000) (hg:∀ k∈l,GoodC caps top k) (ih:∀ k∈l,Does111 k):Does110 l:=by
 intro K C n hC hb hL
 have fr:∀ H,frzArgs pol1 92 0 [.sl false (l.map reAV),.rf 2 1 0 0,.rf 3 1 0 0,.rf 0 1 0 0] H=some ([.sl false (l.map reAV),.rf 2 1 0 0,.rf 3 1 0 0,.rf 0 1 0 0],H):=fun H=>
  zAR _ _ _ (by simp[mixOk,show pol1.byref 92 1=true from rfl,show pol1.byref 92 2=true from rfl,show pol1.byref 92 3=true from rfl,AV.plain,AV.plainL,zAL])
 refine zAV (pol:=pol1) Tryz.func92 rfl rfl rfl rfl (fr _) ?_
 have hlk:(l.map reAV).all (fun y=>decide (y.cells.length=8))=true:=by simp[AV.cells,zAM]
 simp only[AV.cells]at hlk
 have hw1:IntKind.i64.wrap (((l.length:Nat):Int) - 1)=((l.length - 1:Nat):Int):=zAB ⟨by omega,by omega⟩
 simp +contextual (disch:=omega) only[Tryz.f92,dd92,go_sem,simprocAttr,evAppend,List.length_append,mu92,↓zAD,↓zAC,↓zAB,↓zAA,hw1,hlk,ty63]
 have hN:l.length - 1≤l.length:=by omega
 refine zAe (M:=(mskOf (pol1.mask 92) (pol1.gc 92) (pol1.acts 92) 0 2)) rfl (l.length - 1) (fun i=>(⟨62,[(16,I i),(15,I (l.length - 1:Nat)),(5,.ms (K.length+1+1+1+1+1+1) 1 i 0 i),(3,.rf 0 1 0 0),(2,.rf 3 1 0 0),(1,.rf 2 1 0 0),(0,.sl false (l.map reAV))],
  cS (K++[.row 1 ((jumpsP l n i).map (fun p:Nat=>I p)) 0]) (C++altP l n i) (n+lenL (l.take i)+2 * i)⟩:St)) (fun _=>True) ?_ ?_ trivial _ ?_
 ·intro i hi _
  obtain⟨k,hk⟩:∃ k,l[i]?=some k:=⟨_,List.getElem?_eq_getElem (by omega)⟩
  have hkm:=List.mem_of_getElem? hk
  have hl8:=zAM k
  have ht8:=zAU k
  have e1:=zE3 hk
  have e2:=altP_succ l n i k hk
  have e3:=zGJ l n i k hk
  have e4:=zFW l (i+1)
  have hpl:=altP_len caps top l n i hg (by omega)
  have hjl:=zFJ l n i (by omega)
  have hk5:=zBG caps top k (n+lenL (l.take i)+2 * i+1) (hg k hkm)
  have h1:=fun R=>zGm 0 0 0 0 true [] (C++altP l n i) (n+lenL (l.take i)+2 * i) R (by rw[List.length_append,hC,hpl];omega) (by omega)
  have h2:=ih k hkm (K++[.row 1 ((jumpsP l n i).map (fun p:Nat=>I p)) 0]) (C++altP l n i++[⟨0,0,0,0,[]⟩]) (n+lenL (l.take i)+2 * i+1) (by simp only[List.length_append,hC,hpl,List.length_singleton];omega) (by omega) (by omega)
  have h3:=fun R=>zGm 3 0 0 0 true [] (C++altP l n i++[⟨0,0,0,0,[]⟩]++codeG k (n+lenL (l.take i)+2 * i+1)) (n+lenL (l.take i)+2 * i+1+lenG k) R (by simp only[List.length_append,hC,hpl,List.length_singleton,hk5];omega) (by omega)
  simp only[List.map_nil]at h1 h3
  have hap:=fun C' m' x=>app_last (K:=K) (C:=C') (m:=m') (els:=(jumpsP l n i).map (fun p:Nat=>I p)) (n:=i) (x:=x) (by rw[List.length_map];exact hjl) (by omega)
  have hget:(C++altP l n i++[(⟨0,0,0,0,[]⟩:Ins)]++codeG k (n+lenL (l.take i)+2 * i+1)++[(⟨3,0,0,0,[]⟩:Ins)])[n+lenL (l.take i)+2 * i]?=some ⟨0,0,0,0,[]⟩:=by
   have:n+lenL (l.take i)+2 * i=(C++altP l n i).length:=by rw[List.length_append,hC,hpl];omega
   rw[this,List.append_assoc,List.append_assoc,List.getElem?_append_right (Nat.le_refl _),Nat.sub_self]
   rfl
  have hset:∀ x:Ins,(C++altP l n i++[(⟨0,0,0,0,[]⟩:Ins)]++codeG k (n+lenL (l.take i)+2 * i+1)++[(⟨3,0,0,0,[]⟩:Ins)]).set (n+lenL (l.take i)+2 * i) x=C++altP l n i++(x::(codeG k (n+lenL (l.take i)+2 * i+1)++[⟨3,0,0,0,[]⟩])):=by
   intro x
   have:n+lenL (l.take i)+2 * i=(C++altP l n i).length:=by rw[List.length_append,hC,hpl];omega
   rw[this,List.append_assoc,List.append_assoc,List.set_append_right _ _ (Nat.le_refl _),Nat.sub_self]
   rfl
  have hlq:(C.length+(altP l n i).length+1+(codeG k (n+lenL (l.take i)+2 * i+1)).length=n+lenL (l.take i)+2 * i+1+lenG k)=True:=eq_true (by omega)
  simp +contextual (disch:=omega) only[Tryz.f92,dd92,go_sem,simprocAttr,List.length_append,mu92,↓zAD,↓zAC,↓zAB,↓zAA,hget,hlq,hk,hap,ty63,h1,h2,h3,hl8,ht8,zAd,zAg,fzs_set,AV.beqL_refl]
  have hm1:n+(lenL (l.take i)+lenG k)+2 * (i+1)=n+lenL (l.take i)+2 * i+1+lenG k+1:=by omega
  have hm2:n+lenL (l.take i)+2 * i+lenG k+2=n+lenL (l.take i)+2 * i+1+lenG k+1:=by omega
  rw[hm2]at e2
  refine⟨by unfold dOk;kernel_rfl,?_⟩
  have e3':(jumpsP l n (i+1)).map (fun p:Nat=>I p)=(jumpsP l n i).map (fun p:Nat=>I p)++[I (n+lenL (l.take i)+2 * i+1+lenG k:Nat)]:=by rw[e3,List.map_append];rfl
  rw[hset,e1,e2,e3',hm1,← List.append_assoc]
  rfl
 ·intro _
  obtain⟨k,hk⟩:∃ k,l[l.length - 1]?=some k:=⟨_,List.getElem?_eq_getElem (by omega)⟩
  have hkm:=List.mem_of_getElem? hk
  have hl8:=zAM k
  have ht8:=zAU k
  have e1:=zE3 hk
  rw[show l.length - 1+1=l.length by omega,List.take_length]at e1
  have hpl:=altP_len caps top l n (l.length - 1) hg (by omega)
  have hjl:=zFJ l n (l.length - 1) (by omega)
  have hm0:=altM_zero ((n+lenL l+2 * (l.length - 1):Nat):Int) l n k hk
  have hma:=altM_all ((n+lenL l+2 * (l.length - 1):Nat):Int) l n (l.length - 1) (by omega) rfl
  have hms:=altM_set caps top ((n+lenL l+2 * (l.length - 1):Nat):Int) l n
  have h2:=ih k hkm (K++[.row 1 ((jumpsP l n (l.length - 1)).map (fun p:Nat=>I p)) 0]) (C++altP l n (l.length - 1)) (n+lenL (l.take (l.length - 1))+2 * (l.length - 1)) (by rw[List.length_append,hC,hpl];omega) (by omega) (by omega)
  have hq:n+lenL (l.take (l.length - 1))+2 * (l.length - 1)+lenG k=n+lenL l+2 * (l.length - 1):=by omega
  rw[List.append_assoc,← hm0,hq]at h2
  simp +contextual (disch:=omega) only[Tryz.f92,dd92,go_sem,simprocAttr,evAppend,List.length_append,mu92,↓zAD,↓zAC,↓zAB,↓zAA,hw1,hk,h2,hl8,ht8,ty63,zAd,zAg]
  generalize hE:n+lenL l+2 * (l.length - 1)=e at *
  refine⟨by unfold dOk;kernel_rfl,?_⟩
  refine zAe (M:=(mskOf (pol1.mask 92) (pol1.gc 92) (pol1.acts 92) 0 11)) rfl (l.length - 1) (fun j=>(⟨62,[(51,I j),(50,I (l.length - 1:Nat)),(49,.ms (K.length+1+1+1+1+1+1) 1 (l.length - 1) 0 (l.length - 1)),(3,.rf 0 1 0 0)],
   cS (K++[.row 1 ((jumpsP l n (l.length - 1)).map (fun p:Nat=>I p)) 0]) (C++altM (e:Nat) l n j) e⟩:St)) (fun j=>(C++altM (e:Nat) l n j).length=e) ?_ ?_ ?_ _ rfl
  ·intro j hj hlj
   obtain⟨p,hp⟩:∃ p,(jumpsP l n (l.length - 1))[j]?=some p:=⟨_,List.getElem?_eq_getElem (by omega)⟩
   obtain⟨hp1,hp2,hp3⟩:=hms j p hg hp
   have hpe:p=C.length+(p - n):=by omega
   have hgt:(C++altM (e:Nat) l n j)[p]?=some ⟨3,0,0,0,[]⟩:=by
    rw[hpe,hC,List.getElem?_append_right (by omega),hC,Nat.add_sub_cancel_left];exact hp2
   have hpb:p < e:=by
    have:=(List.getElem?_eq_some_iff.1 hgt).1
    omega
   have hst0:(C++altM (e:Nat) l n j).set p ⟨3,(e:Nat),0,0,[]⟩=C++altM (e:Nat) l n (j+1):=by
    rw[hpe,hC,List.set_append_right _ _ (by omega),hC,Nat.add_sub_cancel_left,hp3]
   have hst:((C++altM (e:Nat) l n j).map insAV).set p (.agg [I 3,I (e:Nat),I 0,I 0,.sl false []])=(C++altM (e:Nat) l n (j+1)).map insAV:=by
    rw[← hst0,List.map_set];rfl
   have hlj2:(C++altM (e:Nat) l n (j+1)).length=e:=by rw[← hst0,List.length_set,hlj]
   simp +contextual (disch:=omega) only[Tryz.f92,dd92,go_sem,simprocAttr,evAppend,mu92,↓zAD,↓zAC,↓zAB,↓zAA,hp,hgt,hlj,hjl,hst,zAd,zAg]
   exact⟨hlj2,rfl⟩
  ·intro _
   simp +contextual (disch:=omega) only[Tryz.f92,dd92,go_sem,simprocAttr,evAppend,List.length_append,mu92,↓zAD,↓zAC,↓zAB,↓zAA,zAd]
   rw[hma]
   exact rt_last _ _ _ rfl rfl
  ·rw[hm0,List.length_append,List.length_append,hC,hpl,zBG caps top k _ (hg k hkm)]
   omega
 ·rw[zGI,zGg,List.length_take,List.length_map,Nat.min_eq_left hN]
  simp[lenL]
  rfl
end
section
attribute [local go_sem] evAppend List.length_append List.map_append
open Go.Proofs Go.RowKit Go.IntWalk
set_option maxRecDepth 100000
set_option maxHeartbeats 8000000
def optsM (md:Int) (k:Re) (e:Int):Nat→Nat→Nat→List Ins
 | _,_,0=>[]
 | p,j,m+1=>(if 0 < j then insSplit md (p+1:Nat) e else⟨0,0,0,0,[]⟩)::(codeG k (p+1)++optsM md k e (p+lenG k+1) (j - 1) m)
theorem zDe {caps top:Int} {k:Re} (h:GoodC caps top k) (md e:Int):∀(m p j:Nat),(optsM md k e p j m).length=m * (lenG k+1)
 | 0,_,_=>by simp[optsM]
 | m+1,p,j=>by
   rw[optsM,List.length_cons,List.length_append,zBG caps top k _ h,zDe h md e m,Nat.succ_mul]
   omega
theorem zFI (md e:Int) (k:Re):∀(m p:Nat),optsM md k e p 0 (m+1)=optsM md k e p 0 m++(⟨0,0,0,0,[]⟩::codeG k (p+m * (lenG k+1)+1))
 | 0,p=>by simp[optsM]
 | m+1,p=>by
   rw[optsM,Nat.zero_sub,zFI md e k m]
   conv=>rhs;rw[optsM]
   have:p+lenG k+1+m * (lenG k+1)+1=p+(m+1) * (lenG k+1)+1:=by rw[Nat.succ_mul];omega
   rw[this]
   simp
theorem optsM_all (md:Int) (e:Nat) (k:Re):∀(m p j:Nat),m≤j→optsM md k e p j m=optsG md k p e m
 | 0,_,_,_=>rfl
 | m+1,p,j,h=>by
   rw[optsM,if_pos (by omega),optsM_all md e k m _ (j - 1) (by omega),optsG,optsG,List.range_succ_eq_map,List.flatMap_cons,List.flatMap_map]
   simp only[Nat.zero_mul,Nat.add_zero,List.cons_append]
   congr 2
   congr 1
   funext i
   have:p+lenG k+1+i * (lenG k+1)+1=p+(i+1) * (lenG k+1)+1:=by rw[Nat.succ_mul];omega
   simp only[Function.comp,Nat.succ_eq_add_one,this]
theorem zF7 {caps top:Int} {k:Re} (hk:GoodC caps top k) (md e:Int):∀(m p j:Nat),j < m→(optsM md k e p j m)[j * (lenG k+1)]?=some ⟨0,0,0,0,[]⟩∧(optsM md k e p j m).set (j * (lenG k+1)) (insSplit md (p+j * (lenG k+1)+1:Nat) e)=optsM md k e p (j+1) m
 | 0,_,_,h=>by omega
 | m+1,p,0,h=>by
   refine⟨by simp[optsM],?_⟩
   simp[optsM]
 | m+1,p,j+1,h=>by
   have hl:=zBG caps top k (p+1) hk
   obtain⟨h1,h2⟩:=zF7 hk md e m (p+lenG k+1) j (by omega)
   have hp:(j+1) * (lenG k+1)=(codeG k (p+1)).length+j * (lenG k+1)+1:=by rw[Nat.succ_mul];omega
   have hq:p+lenG k+1+j * (lenG k+1)+1=p+(j+1) * (lenG k+1)+1:=by rw[Nat.succ_mul];omega
   rw[hq]at h2
   refine⟨?_,?_⟩
   ·rw[optsM,hp,List.getElem?_cons_succ,List.getElem?_append_right (by omega),Nat.add_sub_cancel_left]
    exact h1
   ·rw[optsM,if_pos (by omega),Nat.add_sub_cancel]
    conv=>lhs;arg 2;rw[hp]
    rw[List.set_cons_succ,List.set_append_right _ _ (by omega),Nat.add_sub_cancel_left,h2]
    conv=>rhs;rw[optsM,if_pos (by omega)]
    rfl
def splA (p L j:Nat):List AV:=(List.range j).map fun i=>I (p+i * (L+1):Nat)
theorem splA_succ (p L j:Nat):splA p L (j+1)=splA p L j++[I (p+j * (L+1):Nat)]:=by
 rw[splA,List.range_succ,List.map_append];rfl
theorem zFk (p L j:Nat):(splA p L j).length=j:=by simp[splA]
theorem splA_get {p L j i:Nat} (h:i < j):(splA p L j)[i]?=some (I (p+i * (L+1):Nat)):=by
 simp[splA,List.getElem?_range h]
end
section
open Go.Proofs Go.RowKit Go.IntWalk
set_option maxRecDepth 100000
set_option maxHeartbeats 8000000
theorem same_last {K:List MB} {C C':List Ins} {n n':Nat} {b:MB}:sameAt (K.length+1+1+1+1+1+1) (cS (K++[b]) C n) (cS (K++[b]) C' n')=true:=by
 simp[sameAt,MB.beq_refl]
theorem f108_of (caps top:Int) (set:List (Int×Int)) (k:Re) (mn mx md n0:Int) (neg:Bool) (hw:GoodC caps top (.mk 4 set [k] mn mx md n0 neg)) (ih:Does111 k):Does108 (.mk 4 set [k] mn mx md n0 neg):=by
 intro K C n hC hb hL
 have hgk:GoodC caps top k:=hw.kids k (List.mem_singleton.2 rfl)
 have hr:=(zAy hw.whole).2.2.1 rfl
 simp only[repG,Bool.and_eq_true,Bool.or_eq_true,decide_eq_true_eq,beq_iff_eq]at hr
 obtain⟨mn',rfl⟩:∃ m:Nat,mn=m:=⟨mn.toNat,by omega⟩
 have hmn:mn'≤32:=by omega
 have hll:lenL [k]=lenG k:=by simp[lenL]
 have hlr:mn' * lenG k≤lenG (.mk 4 set [k] mn' mx md n0 neg)∧lenG k≤lenG (.mk 4 set [k] mn' mx md n0 neg):=by
  rw[lenG,if_neg (by omega),if_neg (by omega),if_neg (by omega),if_pos rfl,hll,Int.toNat_natCast]
  split
  ·rw[Nat.succ_mul];omega
  ·obtain⟨e,he⟩:∃ e:Nat,mx=(mn' + e:Nat):=⟨(mx - mn').toNat,by omega⟩
   subst he
   rw[Int.toNat_natCast,Nat.add_mul]
   have:1≤mn'→lenG k≤mn' * lenG k:=fun h=>Nat.le_mul_of_pos_left _ h
   have:1≤e→lenG k≤e * lenG k:=fun h=>Nat.le_mul_of_pos_left _ h
   omega
 have hrc:(.pt (reC (.mk 4 set [k] mn' mx md n0 neg)):AV)=.pt (nodeL 4 set [k] mn' mx md n0 neg):=congrArg AV.pt zCm
 have hcl:=fun i=>copies_len hgk n i
 have hl8:=zAM k
 have ht8:=zAU k
 have fr:∀ H,frzArgs pol1 90 0 [.pt (nodeL 4 set [k] mn' mx md n0 neg),.rf 3 1 0 0,.rf 2 1 0 0,.rf 0 1 0 0] H=some ([.pt (nodeL 4 set [k] mn' mx md n0 neg),.rf 3 1 0 0,.rf 2 1 0 0,.rf 0 1 0 0],H):=fun H=>
  zAR _ _ _ (by simp[mixOk,show pol1.byref 90 1=true from rfl,show pol1.byref 90 2=true from rfl,show pol1.byref 90 3=true from rfl,AV.plain,AV.plainL,zAG,zAL,zAc])
 rw[hrc]
 refine zAV (pol:=pol1) Tryz.func90 rfl rfl rfl rfl (fr _) ?_
 simp +contextual (disch:=omega) only[Tryz.f90,dd90,go_sem,simprocAttr,evAppend,List.length_append,mu90,↓zAD,↓zAC,↓zAB,↓zAA]
 refine zAe (M:=(mskOf (pol1.mask 90) (pol1.gc 90) (pol1.acts 90) 0 1)) rfl mn' (fun i=>(⟨84,[(13,I i),(12,I mn'),(3,.rf 0 1 0 0),(2,.rf 2 1 0 0),(1,.rf 3 1 0 0),(0,.pt (nodeL 4 set [k] mn' mx md n0 neg))],cS K (C++copiesG k n i) (n+i * lenG k)⟩:St)) (fun _=>True) ?_ ?_ trivial _ ?_
 ·intro i hi _
  have e1:=copies_succ k n i
  have e3:(i+1) * lenG k=i * lenG k+lenG k:=Nat.succ_mul ..
  have e4:(i+1) * lenG k≤mn' * lenG k:=Nat.mul_le_mul_right _ hi
  have e2:=hcl i
  have h2:=ih K (C++copiesG k n i) (n+i * lenG k) (by rw[List.length_append,hC,e2]) (by omega) (by omega)
  simp +contextual (disch:=omega) only[Tryz.f90,dd90,go_sem,simprocAttr,evAppend,List.length_append,mu90,↓zAD,↓zAC,↓zAB,↓zAA,h2,hl8,ht8]
  repeat' (first|intro _|apply And.intro|(unfold dOk;kernel_rfl)|exact St.beq_refl _|(show altO _ _ _ _=true;kernel_rfl)|(show (_ || _)=true;kernel_rfl)|(show (_ && _)=true;kernel_rfl))
  rw[e1,e3,← List.append_assoc,← Nat.add_assoc]
  rfl
 ·intro _
  have hA:(C++copiesG k n mn').length=n+mn' * lenG k:=by rw[List.length_append,hC,hcl]
  generalize hAe:C++copiesG k n mn' = A at *
  have hp0:n+mn' * lenG k≤100000:=by omega
  generalize hpe:n+mn' * lenG k=p at *
  by_cases hmx:mx = -1
  ·subst hmx
   have hLL:lenG (.mk 4 set [k] mn' (-1) md n0 neg)=mn' * lenG k+lenG k+2:=by
    rw[lenG,if_neg (by omega),if_neg (by omega),if_neg (by omega),if_pos rfl,if_pos rfl,hll,Int.toNat_natCast,Nat.succ_mul]
   have hEb:(p+lenG k+2)≤100000:=by omega
   simp +contextual (disch:=omega) only[Tryz.f90,dd90,go_sem,simprocAttr,evAppend,List.length_append,mu90,↓zAD,↓zAC,↓zAB,↓zAA,hl8]
   repeat' (first|intro _|apply And.intro|(unfold dOk;kernel_rfl)|exact St.beq_refl _|(show altO _ _ _ _=true;kernel_rfl)|(show (_ || _)=true;kernel_rfl)|(show (_ && _)=true;kernel_rfl))
   refine zAe (M:=(mskOf (pol1.mask 90) (pol1.gc 90) (pol1.acts 90) 0 9)) rfl 1 (fun j=>(⟨84,[(38,I j),(37,I (1:Nat)),(6,.ms (K.length+1+1+1+1+1+1) 1 j 0 j),(3,.rf 0 1 0 0),(2,.rf 2 1 0 0),(1,.rf 3 1 0 0),(0,.pt (nodeL 4 set [k] mn' (-1) md n0 neg))],
    cS (K++[.row 1 (splA p (lenG k) j) 0]) (A++optsM md k ((p+lenG k+2):Nat) p 0 j) (p+j * (lenG k+1))⟩:St)) (fun _=>True) ?_ ?_ trivial _ ?_
   ·intro j hj _
    have e4:(j+1) * (lenG k+1)≤1 * (lenG k+1):=Nat.mul_le_mul_right _ hj
    have e3:(j+1) * (lenG k+1)=j * (lenG k+1)+lenG k+1:=by rw[Nat.succ_mul];omega
    have e1:=zFI md ((p+lenG k+2):Nat) k j p
    have hol:=zDe hgk md ((p+lenG k+2):Nat) j p 0
    have h1:=fun R=>zGm 0 0 0 0 true [] (A++optsM md k ((p+lenG k+2):Nat) p 0 j) (p+j * (lenG k+1)) R (by rw[List.length_append,hA,hol]) (by omega)
    simp only[List.map_nil]at h1
    have hap:=fun C' m' x=>app_last (K:=K) (C:=C') (m:=m') (els:=splA p (lenG k) j) (n:=j) (x:=x) (zFk _ _ _) (by omega)
    have h2:=ih (K++[.row 1 (splA p (lenG k) j++[I (p+j * (lenG k+1):Nat)]) 0]) (A++optsM md k ((p+lenG k+2):Nat) p 0 j++[⟨0,0,0,0,[]⟩]) (p+j * (lenG k+1)+1) (by simp only[List.length_append,hA,hol,List.length_singleton]) (by omega) (by omega)
    have er:=splA_succ p (lenG k) j
    simp +contextual (disch:=omega) only[Tryz.f90,dd90,go_sem,simprocAttr,List.length_append,mu90,↓zAD,↓zAC,↓zAB,↓zAA,h1,hap,h2,hl8,ht8,zAd,zAg]
    repeat' (first|intro _|apply And.intro|(unfold dOk;kernel_rfl)|exact St.beq_refl _|(show altO _ _ _ _=true;kernel_rfl)|(show (_ || _)=true;kernel_rfl)|(show (_ && _)=true;kernel_rfl))
    have hq:p+(j+1) * (lenG k+1)=p+j * (lenG k+1)+1+lenG k:=by omega
    have hc:A++optsM md k ((p+lenG k+2):Nat) p 0 (j+1)=A++optsM md k ((p+lenG k+2):Nat) p 0 j++[⟨0,0,0,0,[]⟩]++codeG k (p+j * (lenG k+1)+1):=by rw[e1];simp
    rw[er,hc,hq]
    rfl
   ·intro _
    have hol0:=zDe hgk md ((p+lenG k+2:Nat):Int) 1 p 0
    have hp3:=fun R=>zGm 3 (p:Nat) 0 0 true [] (A++optsM md k ((p+lenG k+2:Nat)) p 0 1) (p+1 * (lenG k+1)) R (by rw[List.length_append,hA,hol0]) (by omega)
    simp only[List.map_nil]at hp3
    have hg0:(splA p (lenG k) 1)[0]?=some (I (p:Nat)):=by simp[splA]
    have hsl:=zFk p (lenG k) 1
    simp +contextual (disch:=omega) only[Tryz.f90,dd90,go_sem,simprocAttr,evAppend,List.length_append,mu90,↓zAD,↓zAC,↓zAB,↓zAA,hsl,zAd,hl8,same_last,hp3,hg0]
    repeat' (first|intro _|apply And.intro|(unfold dOk;kernel_rfl)|exact St.beq_refl _|(show altO _ _ _ _=true;kernel_rfl)|(show (_ || _)=true;kernel_rfl)|(show (_ && _)=true;kernel_rfl))
    refine zAe (M:=(mskOf (pol1.mask 90) (pol1.gc 90) (pol1.acts 90) 0 16)) rfl 1 (fun j=>(⟨84,[(67,I j),(66,I (1:Nat)),(65,.ms (K.length+1+1+1+1+1+1) 1 1 0 1),(3,.rf 0 1 0 0),(0,.pt (nodeL 4 set [k] mn' (-1) md n0 neg))],
     cS (K++[.row 1 (splA p (lenG k) 1) 0]) (A++optsM md k ((p+lenG k+2:Nat)) p j 1++[(⟨3,p,0,0,[]⟩:Ins)]) (p+lenG k+2)⟩:St)) (fun _=>True) ?_ ?_ trivial _ ?_
    ·intro j hj _
     have e4:(j+1) * (lenG k+1)≤1 * (lenG k+1):=Nat.mul_le_mul_right _ hj
     have e3:(j+1) * (lenG k+1)=j * (lenG k+1)+lenG k+1:=by rw[Nat.succ_mul];omega
     have hgs:=splA_get (p:=p) (L:=lenG k) hj
     obtain⟨g1,g2⟩:=zF7 hgk md ((p+lenG k+2):Nat) 1 p j hj
     have hol:=zDe hgk md ((p+lenG k+2):Nat) 1 p j
     have hcl2:(A++optsM md k ((p+lenG k+2:Nat)) p j 1++[(⟨3,p,0,0,[]⟩:Ins)]).length=(p+lenG k+2):=by simp only[List.length_append,hA,hol,List.length_singleton]<;>omega
     have hget:(A++optsM md k ((p+lenG k+2:Nat)) p j 1++[(⟨3,p,0,0,[]⟩:Ins)])[p+j * (lenG k+1)]?=some ⟨0,0,0,0,[]⟩:=by
      rw[List.getElem?_append_left (by rw[List.length_append,hA,hol];omega),List.getElem?_append_right (by omega),hA,Nat.add_sub_cancel_left];exact g1
     have hset:(A++optsM md k ((p+lenG k+2:Nat)) p j 1++[(⟨3,p,0,0,[]⟩:Ins)]).set (p+j * (lenG k+1)) (insSplit md (p+j * (lenG k+1)+1:Nat) ((p+lenG k+2):Nat))=(A++optsM md k ((p+lenG k+2:Nat)) p (j+1) 1++[(⟨3,p,0,0,[]⟩:Ins)]):=by
      rw[List.set_append_left _ _ (by rw[List.length_append,hA,hol];omega),List.set_append_right _ _ (by omega),hA,Nat.add_sub_cancel_left,g2]
     have hst:((A++optsM md k ((p+lenG k+2:Nat)) p j 1++[(⟨3,p,0,0,[]⟩:Ins)]).map insAV).set (p+j * (lenG k+1)) (insAV (insSplit md (p+j * (lenG k+1)+1:Nat) ((p+lenG k+2):Nat)))=(A++optsM md k ((p+lenG k+2:Nat)) p (j+1) 1++[(⟨3,p,0,0,[]⟩:Ins)]).map insAV:=by
      rw[← hset,List.map_set]
     have h109:=f109z (p+j * (lenG k+1)+1:Nat) ((p+lenG k+2):Nat) md
     simp +contextual (disch:=omega) only[Tryz.f90,dd90,go_sem,simprocAttr,evAppend,mu90,↓zAD,↓zAC,↓zAB,↓zAA,hgs,hget,hcl2,hst,hsl,h109,zAd,zAg]
     repeat' (first|intro _|apply And.intro|(unfold dOk;kernel_rfl)|exact St.beq_refl _|(show altO _ _ _ _=true;kernel_rfl)|(show (_ || _)=true;kernel_rfl)|(show (_ && _)=true;kernel_rfl))
     rfl
    ·intro _
     simp +contextual (disch:=omega) only[Tryz.f90,dd90,go_sem,simprocAttr,evAppend,List.length_append,mu90,↓zAD,↓zAC,↓zAB,↓zAA,zAd]
     have hcode:codeG (.mk 4 set [k] mn' (-1) md n0 neg) n=copiesG k n mn'++insSplit md ((n+mn' * lenG k+1:Nat):Int) ((n+mn' * lenG k+lenG k+2:Nat):Int)::(codeG k (n+mn' * lenG k+1)++[⟨3,(n+mn' * lenG k:Nat),0,0,[]⟩]):=by
      rw[codeG]
      simp only[copiesG,hll,codeHd,Int.toNat_natCast,if_true]
      rfl
     rw[hpe]at hcode
     have hfin:C++codeG (.mk 4 set [k] mn' (-1) md n0 neg) n=A++optsM md k ((p+lenG k+2:Nat)) p 1 1++[(⟨3,p,0,0,[]⟩:Ins)]:=by
      rw[hcode,← List.append_assoc,hAe]
      simp[optsM]
     rw[hfin,show n+lenG (.mk 4 set [k] mn' (-1) md n0 neg)=p+lenG k+2 by omega]
     exact rt_last _ _ _ rfl rfl
    ·rw[show p+1 * (lenG k+1)+1=p+lenG k+2 by omega]
     rfl
   ·simp[optsM,splA]
    rfl
  ·obtain⟨e,rfl⟩:∃ e:Nat,mx=(mn' + e:Nat):=⟨(mx - mn').toNat,by omega⟩
   have hnn:mn' + e - mn' = e:=by omega
   have hLL:lenG (.mk 4 set [k] mn' (mn' + e:Nat) md n0 neg)=mn' * lenG k+e * (lenG k+1):=by
    rw[lenG,if_neg (by omega),if_neg (by omega),if_neg (by omega),if_pos rfl,if_neg hmx,hll,Int.toNat_natCast,Int.toNat_natCast,hnn,Nat.add_mul,Nat.mul_succ]
    omega
   have hsub:((mn' + e:Nat):Int) - (mn':Int)=(e:Int):=by omega
   have hEb:(p+e * (lenG k+1))≤100000:=by omega
   simp +contextual (disch:=omega) only[Tryz.f90,dd90,go_sem,simprocAttr,evAppend,List.length_append,mu90,↓zAD,↓zAC,↓zAB,↓zAA,hsub,hl8]
   repeat' (first|intro _|apply And.intro|(unfold dOk;kernel_rfl)|exact St.beq_refl _|(show altO _ _ _ _=true;kernel_rfl)|(show (_ || _)=true;kernel_rfl)|(show (_ && _)=true;kernel_rfl))
   refine zAe (M:=(mskOf (pol1.mask 90) (pol1.gc 90) (pol1.acts 90) 0 9)) rfl e (fun j=>(⟨84,[(38,I j),(37,I (e:Nat)),(6,.ms (K.length+1+1+1+1+1+1) 1 j 0 j),(3,.rf 0 1 0 0),(2,.rf 2 1 0 0),(1,.rf 3 1 0 0),(0,.pt (nodeL 4 set [k] mn' (mn' + e:Nat) md n0 neg))],
    cS (K++[.row 1 (splA p (lenG k) j) 0]) (A++optsM md k ((p+e * (lenG k+1)):Nat) p 0 j) (p+j * (lenG k+1))⟩:St)) (fun _=>True) ?_ ?_ trivial _ ?_
   ·intro j hj _
    have e4:(j+1) * (lenG k+1)≤e * (lenG k+1):=Nat.mul_le_mul_right _ hj
    have e3:(j+1) * (lenG k+1)=j * (lenG k+1)+lenG k+1:=by rw[Nat.succ_mul];omega
    have e1:=zFI md ((p+e * (lenG k+1)):Nat) k j p
    have hol:=zDe hgk md ((p+e * (lenG k+1)):Nat) j p 0
    have h1:=fun R=>zGm 0 0 0 0 true [] (A++optsM md k ((p+e * (lenG k+1)):Nat) p 0 j) (p+j * (lenG k+1)) R (by rw[List.length_append,hA,hol]) (by omega)
    simp only[List.map_nil]at h1
    have hap:=fun C' m' x=>app_last (K:=K) (C:=C') (m:=m') (els:=splA p (lenG k) j) (n:=j) (x:=x) (zFk _ _ _) (by omega)
    have h2:=ih (K++[.row 1 (splA p (lenG k) j++[I (p+j * (lenG k+1):Nat)]) 0]) (A++optsM md k ((p+e * (lenG k+1)):Nat) p 0 j++[⟨0,0,0,0,[]⟩]) (p+j * (lenG k+1)+1) (by simp only[List.length_append,hA,hol,List.length_singleton]) (by omega) (by omega)
    have er:=splA_succ p (lenG k) j
    simp +contextual (disch:=omega) only[Tryz.f90,dd90,go_sem,simprocAttr,List.length_append,mu90,↓zAD,↓zAC,↓zAB,↓zAA,h1,hap,h2,hl8,ht8,zAd,zAg]
    repeat' (first|intro _|apply And.intro|(unfold dOk;kernel_rfl)|exact St.beq_refl _|(show altO _ _ _ _=true;kernel_rfl)|(show (_ || _)=true;kernel_rfl)|(show (_ && _)=true;kernel_rfl))
    have hq:p+(j+1) * (lenG k+1)=p+j * (lenG k+1)+1+lenG k:=by omega
    have hc:A++optsM md k ((p+e * (lenG k+1)):Nat) p 0 (j+1)=A++optsM md k ((p+e * (lenG k+1)):Nat) p 0 j++[⟨0,0,0,0,[]⟩]++codeG k (p+j * (lenG k+1)+1):=by rw[e1];simp
    rw[er,hc,hq]
    rfl
   ·intro _
    have hsl:=zFk p (lenG k) e
    simp +contextual (disch:=omega) only[Tryz.f90,dd90,go_sem,simprocAttr,evAppend,List.length_append,mu90,↓zAD,↓zAC,↓zAB,↓zAA,hsl,zAd,hl8,same_last]
    repeat' (first|intro _|apply And.intro|(unfold dOk;kernel_rfl)|exact St.beq_refl _|(show altO _ _ _ _=true;kernel_rfl)|(show (_ || _)=true;kernel_rfl)|(show (_ && _)=true;kernel_rfl))
    refine zAe (M:=(mskOf (pol1.mask 90) (pol1.gc 90) (pol1.acts 90) 0 16)) rfl e (fun j=>(⟨84,[(67,I j),(66,I (e:Nat)),(65,.ms (K.length+1+1+1+1+1+1) 1 e 0 e),(3,.rf 0 1 0 0),(0,.pt (nodeL 4 set [k] mn' (mn' + e:Nat) md n0 neg))],
     cS (K++[.row 1 (splA p (lenG k) e) 0]) (A++optsM md k ((p+e * (lenG k+1):Nat)) p j e) (p+e * (lenG k+1))⟩:St)) (fun _=>True) ?_ ?_ trivial _ ?_
    ·intro j hj _
     have e4:(j+1) * (lenG k+1)≤e * (lenG k+1):=Nat.mul_le_mul_right _ hj
     have e3:(j+1) * (lenG k+1)=j * (lenG k+1)+lenG k+1:=by rw[Nat.succ_mul];omega
     have hgs:=splA_get (p:=p) (L:=lenG k) hj
     obtain⟨g1,g2⟩:=zF7 hgk md ((p+e * (lenG k+1)):Nat) e p j hj
     have hol:=zDe hgk md ((p+e * (lenG k+1)):Nat) e p j
     have hcl2:(A++optsM md k ((p+e * (lenG k+1):Nat)) p j e).length=(p+e * (lenG k+1)):=by simp only[List.length_append,hA,hol,List.length_singleton]<;>omega
     have hget:(A++optsM md k ((p+e * (lenG k+1):Nat)) p j e)[p+j * (lenG k+1)]?=some ⟨0,0,0,0,[]⟩:=by
      rw [ List.getElem?_append_right (by omega),hA,Nat.add_sub_cancel_left];exact g1
     have hset:(A++optsM md k ((p+e * (lenG k+1):Nat)) p j e).set (p+j * (lenG k+1)) (insSplit md (p+j * (lenG k+1)+1:Nat) ((p+e * (lenG k+1)):Nat))=(A++optsM md k ((p+e * (lenG k+1):Nat)) p (j+1) e):=by
      rw [ List.set_append_right _ _ (by omega),hA,Nat.add_sub_cancel_left,g2]
     have hst:((A++optsM md k ((p+e * (lenG k+1):Nat)) p j e).map insAV).set (p+j * (lenG k+1)) (insAV (insSplit md (p+j * (lenG k+1)+1:Nat) ((p+e * (lenG k+1)):Nat)))=(A++optsM md k ((p+e * (lenG k+1):Nat)) p (j+1) e).map insAV:=by
      rw[← hset,List.map_set]
     have h109:=f109z (p+j * (lenG k+1)+1:Nat) ((p+e * (lenG k+1)):Nat) md
     simp +contextual (disch:=omega) only[Tryz.f90,dd90,go_sem,simprocAttr,evAppend,mu90,↓zAD,↓zAC,↓zAB,↓zAA,hgs,hget,hcl2,hst,hsl,h109,zAd,zAg]
     repeat' (first|intro _|apply And.intro|(unfold dOk;kernel_rfl)|exact St.beq_refl _|(show altO _ _ _ _=true;kernel_rfl)|(show (_ || _)=true;kernel_rfl)|(show (_ && _)=true;kernel_rfl))
     rfl
    ·intro _
     simp +contextual (disch:=omega) only[Tryz.f90,dd90,go_sem,simprocAttr,evAppend,List.length_append,mu90,↓zAD,↓zAC,↓zAB,↓zAA,zAd]
     have hcode:codeG (.mk 4 set [k] mn' (mn' + e:Nat) md n0 neg) n=restG md k n mn' (p+e * (lenG k+1)) e:=by
      rw[codeG,if_neg (by omega),if_neg (by omega),if_neg (by omega),if_neg (by omega),if_neg (by omega),if_pos rfl,if_neg hmx]
      simp only[hll,Int.toNat_natCast,hnn,restG,optsG,copiesG,codeHd]
      have:n+(mn' + e) * lenG k+e=p+e * (lenG k+1):=by
       rw[← hpe,Nat.add_mul,Nat.mul_succ];omega
      rw[this]
     have hfin:C++codeG (.mk 4 set [k] mn' (mn' + e:Nat) md n0 neg) n=A++optsM md k ((p+e * (lenG k+1):Nat)) p e e:=by
      rw[hcode,restG,← List.append_assoc,hAe,hpe,optsM_all md _ k e p e (Nat.le_refl _)]
     rw[hfin,show n+lenG (.mk 4 set [k] mn' (mn' + e:Nat) md n0 neg)=p+e * (lenG k+1) by omega]
     exact rt_last _ _ _ rfl rfl
    ·rfl
   ·simp[optsM,splA]
    rfl
 ·simp[copiesG]
  rfl
end
section
attribute [local go_sem] List.length_append
open Go.Proofs Go.RowKit Go.IntWalk
set_option maxRecDepth 100000
set_option maxHeartbeats 8000000
theorem f111z (caps top:Int) (hcaps:caps≤1000):∀(N:Nat) (r:Re),r.wt≤N→r.wt≤1000000→GoodC caps top r→Does111 r
 | 0,r,h,_,_=>by have:=r.wt_pos;omega
 | N+1,r,h,hN,hw=>by
   refine f111_of caps top hcaps r hN hw ?_
   rintro op set kids mn mx md n neg rfl
   have hkl:=Re.wtL_len kids
   have hwt:1+set.length+Re.wtL kids=(Re.mk op set kids mn mx md n neg).wt:=by simp[Re.wt]
   have hkd:=(zAy hw.whole).2.1
   have ih:=fun k (hk:k∈kids)=>f111z caps top hcaps N k (by have:=Re.wtL_mem hk;omega) (by have:=Re.wtL_mem hk;omega) (hw.kids k hk)
   refine⟨?_,?_,ih⟩
   ·rintro rfl
    obtain⟨k,rfl⟩:∃ k,kids=[k]:=List.length_eq_one_iff.1 (by simpa [kidsG] using hkd)
    exact f108_of caps top set k mn mx md n neg hw (ih k (List.mem_singleton.2 rfl))
   ·rintro rfl
    exact f110_of caps top kids (by simpa [kidsG] using hkd) (by omega) hw.kids ih
theorem f51 (caps top:Int) (hcaps:caps≤1000) (r:Re) (hN:r.wt≤1000000) (hw:GoodC caps top r) (hl:lenG r≤8192) (H:List MB) :
  call Tryz.prog pol1 56 [.pt (reC r)] H=some (.ms H.length 5 (lenG r) 0 (lenG r),H++[.row 5 ((codeG r 0).map insAV) 0]):=by
 have h111:=f111z caps top hcaps r.wt r (Nat.le_refl _) hN hw [] [] 0 rfl (by omega) hl
 have hlen:=zBG caps top r 0 hw
 rw[List.nil_append,Nat.zero_add]at h111
 refine call_runO (k:=5) (els:=(codeG r 0).map insAV) Tryz.func56 rfl rfl rfl rfl (fun _=>rfl) (by simp[AV.plain,AV.plainL,zAc]) (zAH _) ?_ H
 generalize codeG r 0=B at *
 generalize lenG r=L at *
 have h2:call Tryz.prog pol1 93 [.pt (reC r),.rf 2 1 0 0,.rf 3 1 0 0,.rf 5 1 0 0,.rf 4 1 0 0] [.row 1 [.ms 1 5 0 0 0] 0,.row 5 [] 0,.row 1 [.clo 89 [.rf 0 1 0 0]] 0,.row 1 [.clo 93 [.rf 2 1 0 0,.rf 3 1 0 0,.rf 5 1 0 0,.rf 4 1 0 0]] 0,
  .row 1 [.clo 90 [.rf 3 1 0 0,.rf 2 1 0 0,.rf 0 1 0 0]] 0,.row 1 [.clo 92 [.rf 2 1 0 0,.rf 3 1 0 0,.rf 0 1 0 0]] 0]=some (.tup [],cS [] B L):=h111
 simp +contextual (disch:=omega) only[Tryz.f56,dd56,go_sem,simprocAttr,mu56,↓zAD,↓zAC,↓zAB,↓zAA,h2]
 exact own_end rfl rfl rfl hlen rfl (fun j=>zHx _)
end
end Go.Ev
