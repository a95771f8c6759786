/- Functions of the program, each with what it computes; no further conditions. -/
import Derived.Test.YtmfpcondongbjaaDoorR07
import Derived.Test.YtmfpcondongbjaaDoorR20
import Derived.Test.YtmfpcondongbjaaDoorR16
import Derived.Test.YtmfpcondongbjaaDoorR08
import Derived.Test.YtmfpcondongbjaaDoorR15
set_option linter.unusedVariables false
set_option linter.unusedSimpArgs false
namespace Go.Ev
attribute [local go_sem] evAppend evBuild splice List.length_append List.map_append tySzE List.head?_drop Nat.mul_one zAN zAQ zAL zAO zAP zAU
section
open Go.Proofs Go.RowKit Go.IntWalk
set_option maxRecDepth 100000
set_option maxHeartbeats 4000000
theorem zJn {l:List Int} {k:Nat} (h:k < l.length):(l.map I)[k]?=some (I (l.getD k 0)):=by
 rw[List.getElem?_map,List.getElem?_eq_getElem h,List.getD_eq_getElem?_getD,List.getElem?_eq_getElem h];rfl
def symI (n:Int) (runes:Bool):Int:=
 if runes=true∧n / 14 % 4=0 then([127,128,2047,2048,55295,57344,65535,65536,1114111,8364]:List Int).getD (n / 56 % 10).toNat 0
 else([97,98,99,97,90,48,95,10,32,98,228,255,0,128]:List Int).getD (n % 14).toNat 0
def textI (l:List Int) (most:Nat) (runes:Bool):List Int:=(l.take most).map fun x=>symI (aroundI x 1048576) runes
theorem f22 (l:List Int) (hl:∀ x∈l,In64 x) (most:Nat) (hm:most≤1000) (runes:Bool) (H:List MB) :
  call Tryd.prog pol1 4 [.sl false (l.map I),I most,.bool runes] H=some (.sl false ((textI l most runes).map I),H):=by
 refine zAS Tryd.func4 rfl rfl rfl rfl rfl rfl (fun _=>rfl) (by simp[AV.plain,AV.plainL,zAF,zAG,zAH,zAI]) (by simp[AV.plain,AV.plainL,zAF,zAG,zAH,zAI]) ?_ H
 simp +contextual (disch:=omega) only[Tryd.f4,dd4,go_sem,simprocAttr,mu4,↓zAE,↓zAC,↓zAB,↓zAA]
 refine zAY (M:=(mskOf (pol1.mask 4) (pol1.gc 4) (pol1.acts 4) 0 3)) rfl (min l.length most) (fun i=>(⟨50,[(8,I i),(7,.ms 0 1 i 0 i),(2,.bool runes),(1,I most),(0,.sl false (l.map I))],[.row 1 ((textI (l.take i) most runes).map I) 0]⟩:St)) (fun i=>True) ?_ ?_ trivial _ (by first|rfl|(refine zAV (n:=1) (m:=⟨some [8,7,2,1,0],some 1,[]⟩) rfl rfl ?_ ?_ ?_<;>first|rfl|(simp[keepT,AV.underL,AV.under,MB.under,zAD,zAK,zAJ,zAF,zAG,zAH,zAI,-List.map_take,-List.map_replicate,-List.map_set,textI];done)|(simp[keepT,AV.underL,AV.under,MB.under,zAD,zAK,zAJ,zAF,zAG,zAH,zAI,-List.map_take,-List.map_replicate,-List.map_set,textI];omega)))
 ·intro i hi _
  obtain⟨p,hp⟩:∃ p,l[i]?=some p:=⟨_,List.getElem?_eq_getElem (by omega)⟩
  have h12:=f12 p 1048576 (hl p (List.mem_of_getElem? hp)) (by omega)
  have hlt:=zHq (n:=p) (m:=1048576) (by omega)
  have hlen:(textI (l.take i) most runes).length=i:=by simp[textI];omega
  have hnx:textI (l.take (i+1)) most runes=textI (l.take i) most runes++[symI (aroundI p 1048576) runes]:=by
   unfold textI
   rw[List.take_of_length_le (l:=l.take (i+1)) (by simp;omega),List.take_of_length_le (l:=l.take i) (by simp;omega),List.take_add_one,hp]
   simp
  rw[hnx]
  generalize textI (l.take i) most runes=xs at *
  generalize hq:aroundI p 1048576=q at *
  have htk:=zEL (f:=I) hlen
  have h14:([I 97,I 98,I 99,I 97,I 90,I 48,I 95,I 10,I 32,I 98,I 228,I 255,I 0,I 128]:List AV)[(q % 14).toNat]?=some (I (([97,98,99,97,90,48,95,10,32,98,228,255,0,128]:List Int).getD (q % 14).toNat 0)):=zJn (l:=([97,98,99,97,90,48,95,10,32,98,228,255,0,128]:List Int)) (by simp only[List.length_cons,List.length_nil];omega)
  have h10:([I 127,I 128,I 2047,I 2048,I 55295,I 57344,I 65535,I 65536,I 1114111,I 8364]:List AV)[(q / 56 % 10).toNat]?=some (I (([127,128,2047,2048,55295,57344,65535,65536,1114111,8364]:List Int).getD (q / 56 % 10).toNat 0)):=zJn (l:=([127,128,2047,2048,55295,57344,65535,65536,1114111,8364]:List Int)) (by simp only[List.length_cons,List.length_nil];omega)
  by_cases hrun:runes=true∧q / 14 % 4=0
  ·obtain⟨rfl,h4⟩:=hrun
   simp +contextual (disch:=omega) only[Tryd.f4,dd4,go_sem,simprocAttr,mu4,↓zAE,↓zAC,↓zAB,↓zAA,hp,hlen,htk,h12,h14,h10,h4]
   rw[show symI q true=([127,128,2047,2048,55295,57344,65535,65536,1114111,8364]:List Int).getD (q / 56 % 10).toNat 0 from if_pos ⟨rfl,h4⟩]
   exact(by first|rfl|(refine zAV (n:=1) (m:=⟨some [8,7,2,1,0],some 1,[]⟩) rfl rfl ?_ ?_ ?_<;>first|rfl|(simp[keepT,AV.underL,AV.under,MB.under,zAD,zAK,zAJ,zAF,zAG,zAH,zAI,-List.map_take,-List.map_replicate,-List.map_set];done)|(simp[keepT,AV.underL,AV.under,MB.under,zAD,zAK,zAJ,zAF,zAG,zAH,zAI,-List.map_take,-List.map_replicate,-List.map_set];omega)))
  ·rw[show symI q runes=([97,98,99,97,90,48,95,10,32,98,228,255,0,128]:List Int).getD (q % 14).toNat 0 from if_neg hrun]
   cases runes
   ·simp +contextual (disch:=omega) only[Tryd.f4,dd4,go_sem,simprocAttr,mu4,↓zAE,↓zAC,↓zAB,↓zAA,hp,hlen,htk,h12,h14]
    exact(by first|rfl|(refine zAV (n:=1) (m:=⟨some [8,7,2,1,0],some 1,[]⟩) rfl rfl ?_ ?_ ?_<;>first|rfl|(simp[keepT,AV.underL,AV.under,MB.under,zAD,zAK,zAJ,zAF,zAG,zAH,zAI,-List.map_take,-List.map_replicate,-List.map_set];done)|(simp[keepT,AV.underL,AV.under,MB.under,zAD,zAK,zAJ,zAF,zAG,zAH,zAI,-List.map_take,-List.map_replicate,-List.map_set];omega)))
   ·have h4:¬ q / 14 % 4=0:=fun h=>hrun ⟨rfl,h⟩
    simp +contextual (disch:=omega) only[Tryd.f4,dd4,go_sem,simprocAttr,mu4,↓zAE,↓zAC,↓zAB,↓zAA,hp,hlen,htk,h12,h14,h4]
    exact(by first|rfl|(refine zAV (n:=1) (m:=⟨some [8,7,2,1,0],some 1,[]⟩) rfl rfl ?_ ?_ ?_<;>first|rfl|(simp[keepT,AV.underL,AV.under,MB.under,zAD,zAK,zAJ,zAF,zAG,zAH,zAI,-List.map_take,-List.map_replicate,-List.map_set];done)|(simp[keepT,AV.underL,AV.under,MB.under,zAD,zAK,zAJ,zAF,zAG,zAH,zAI,-List.map_take,-List.map_replicate,-List.map_set];omega)))
 ·intro _
  have hall:textI (l.take (min l.length most)) most runes=textI l most runes:=by
   unfold textI
   rw[List.take_take]
   congr 1
   rcases Nat.le_total l.length most with h|h
   ·rw[List.take_of_length_le (by omega),List.take_of_length_le h]
   ·rw[show min most (min l.length most)=most by omega]
  have hlen:(textI l most runes).length=min l.length most:=by simp[textI];omega
  rw[hall]
  simp +contextual (disch:=omega) only[Tryd.f4,dd4,go_sem,simprocAttr,mu4,↓zAE,↓zAC,↓zAB,↓zAA]
  repeat' (first|intro _|apply And.intro|(unfold dOk;kernel_rfl)|exact St.beq_refl _|(show altO _ _ _ _=true;kernel_rfl)|(show (_ || _)=true;kernel_rfl)|(show (_ && _)=true;kernel_rfl))
  all_goals exact⟨_,zLk rfl (by simp[hlen]) (zAF _)⟩
end
section
open Go.Proofs Go.RowKit Go.IntWalk
set_option maxRecDepth 100000
set_option maxHeartbeats 16000000
theorem zK5 (n:Int):∃ s:Nat,SymOk s∧symI n true=(s:Int):=by
 have h1:∀ k:Nat,k < 10→∃ s:Nat,SymOk s∧([127,128,2047,2048,55295,57344,65535,65536,1114111,8364]:List Int).getD k 0=(s:Int):=fun k hk=>
  ⟨([127,128,2047,2048,55295,57344,65535,65536,1114111,8364]:List Nat).getD k 0,by revert k;unfold SymOk;decide,by revert k;decide⟩
 have h2:∀ k:Nat,k < 14→∃ s:Nat,SymOk s∧([97,98,99,97,90,48,95,10,32,98,228,255,0,128]:List Int).getD k 0=(s:Int):=fun k hk=>
  ⟨([97,98,99,97,90,48,95,10,32,98,228,255,0,128]:List Nat).getD k 0,by revert k;unfold SymOk;decide,by revert k;decide⟩
 unfold symI
 split
 ·exact h1 _ (by omega)
 ·exact h2 _ (by omega)
theorem zK4 (l:List Int):∃ t:List Nat,textI l 12 true=intT t∧(∀ s∈t,SymOk s)∧t.length≤12:=by
 have key:∀ m:List Int,∃ t:List Nat,(m.map fun x=>symI (aroundI x 1048576) true)=intT t∧(∀ s∈t,SymOk s)∧t.length=m.length:=by
  intro m
  induction m with
  | nil=>exact⟨[],rfl,by simp,rfl⟩
  | cons x m ih=>
    obtain⟨t,h1,h2,h3⟩:=ih
    obtain⟨s,h4,h5⟩:=zK5 (aroundI x 1048576)
    refine⟨s::t,by simp only[List.map_cons,h5,h1,intT],fun y hy=>?_,by simp[h3]⟩
    rcases List.mem_cons.1 hy with rfl|hy
    ·exact h4
    ·exact h2 y hy
 obtain⟨t,h1,h2,h3⟩:=key (l.take 12)
 exact⟨t,h1,h2,by rw[h3];simp;omega⟩
noncomputable def polX:Pol:=polL [4,6,7,8,9,10,11,12,13]
theorem zCT:polX.dead=pol1.dead:=rfl
theorem zBq:polX.bdead=pol1.bdead:=rfl
theorem zBp:polX.racts=pol1.racts:=rfl
theorem zCS:polX.muts=pol1.muts:=rfl
theorem zCU:polX.alts=pol1.alts:=rfl
theorem zGN (f:Nat) (h19:f≠5) (hf:[4,6,7,8,9,10,11,12,13].contains f=true) {args:List AV} {H H':List MB} {r:AV} (h:call Tryd.prog pol1 f args H=some (r,H')):call Tryd.prog polX f args H=some (r,H'):=zMG (by decide) f h19 hf h
theorem okX:CfOk Tryd.prog (call Tryd.prog polX):=okL (by decide)
abbrev setAV (x:Nat):AV:=.agg [I 1,.sl false [.agg [NI x,NI x]],.sl false [],I 0,I 0,I 0,I 0,.bool false]
theorem f6 (x:Nat) (H:List MB):call Tryd.prog pol1 6 [NI x] H=some (setAV x,H):=by
 refine zAS Tryd.func6 rfl rfl rfl rfl rfl rfl (fun _=>rfl) (by simp[AV.plain,AV.plainL]) (by simp[AV.plain,AV.plainL]) ?_ H
 simp +contextual (disch:=omega) only[Tryd.f6,dd6,go_sem,simprocAttr,mu6,↓zAE,↓zAC,↓zAB,↓zAA,zCT,zBq,zBp,zCS,zCU]
 repeat' (first|intro _|apply And.intro|(unfold dOk;kernel_rfl)|exact St.beq_refl _|(show altO _ _ _ _=true;kernel_rfl)|(show (_ || _)=true;kernel_rfl)|(show (_ && _)=true;kernel_rfl))
 exact⟨_,rfl⟩
theorem zFo (t:List Nat):AV.plainL (t.map setAV)=true:=by
 induction t with
 | nil=>rfl
 | cons a t ih=>simp only[List.map_cons,AV.plainL,ih,Bool.and_true];rfl
theorem zLd (t:List Nat):patAV ⟨seqRe t,0,true⟩=.agg [I 2,.sl false [],.sl false (t.map setAV),I 0,I 0,I 0,I 0,.bool false,I 0,.bool true]:=by
 have:reL (t.map setRe)=t.map setAV:=by
  rw[zIk,List.map_map]
  rfl
 simp only[patAV,patC,seqRe,reC,this]
 rfl
theorem x9 {t:List Nat} (ht:∀ s∈t,SymOk s) (h2:2≤t.length) (hl:t.length≤12) (X:MB) (R:List MB) :
  call Tryd.prog polX 9 [.agg [I 2,.sl true [],.ms 1 8 t.length 0 t.length,I 0,I 0,I 0,I 0,.bool false,I 0,.bool true]] (X::.row 8 (t.map setAV) 0::R)=some (.tup [prgAV ⟨seqI (intT t),0,true⟩,I 0],X::.row 8 (t.map setAV) t.length::R):=by
 refine zGN 9 (by decide) (by decide) ?_
 rw[zC7 (l:=[patAV ⟨seqRe t,0,true⟩]) (H1:=X::.row 8 (t.map setAV) t.length::R) rfl ?_ (by simp only[AV.plainL,AV.plain,Bool.and_true];exact zCV _)]
 ·have:=f14 ⟨seqRe t,0,true⟩ (by simp only[zLa];omega) (X::.row 8 (t.map setAV) t.length::R)
  rw[zJx ht h2 hl]at this
  exact this
 ·have h2:fz (.agg [I 2,.sl true [],.ms 1 8 t.length 0 t.length,I 0,I 0,I 0,I 0,.bool false,I 0,.bool true]) (X::.row 8 (t.map setAV) 0::R)=some (patAV ⟨seqRe t,0,true⟩,X::.row 8 (t.map setAV) t.length::R):=by
   rw[zLd]
   have k1:∀ H,fzA (fzJ 6) (.sl true []) H=some (.sl false [],H):=fun H=>rfl
   have k2:∀ b H,fzA (fzJ 6) (.bool b) H=some (.bool b,H):=fun b H=>rfl
   have k3:fzA (fzJ 6) (.ms 1 8 t.length 0 t.length) (X::.row 8 (t.map setAV) 0::R)=some (.sl false (t.map setAV),mark (X::.row 8 (t.map setAV) 0::R) 1 t.length):=zDW (els:=t.map setAV) (k:=8) (z:=0) rfl (by simp) (zFo _)
   simp only[fz,zID,fzL,zFF,k1,k2,k3]
   simp[mark,getRow]
  have hby:∀ i,pol1.byref 9 i=false:=fun i=>rfl
  simp only[frzArgs,hby,Bool.false_eq_true,if_false,h2]
theorem x12 {t:List Nat} (hop:OkP (seqI (intT t))) {Q:Nat→Prop} (hQ:Closed (seqI (intT t)) Q) (hQ0:Q 0) (hl:t.length≤12) {o:List Int} (ho:o.length=t.length) {G:List MB} (hr:getRow G 5=some (1,o.map I,0)) :
  evThaw (call Tryd.prog polX) 12 [.pt [.sl false ((seqI (intT t)).map insAV),I 0,NV (t.length+1)],.ms 5 1 t.length 0 t.length,I 0] G =
   some (.tup [.agg [I 0,I (if intT t=o then(t.length:Int) else 0),.sl false []],.bool (decide (intT t=o)),I 0],G):=by
 have h1:AV.under 0 (.pt [.sl false ((seqI (intT t)).map insAV),I 0,NV (t.length+1)])=true:=by
  have:=zAD 0 _ (zAH (seqI (intT t)))
  simp[AV.under,AV.underL,this]
 have h2:((o.map I).all fun x=>AV.underL 0 x.cells)=true:=by simp[AV.cells,AV.underL,AV.under]
 have ha:thwA G [.pt [.sl false ((seqI (intT t)).map insAV),I 0,NV (t.length+1)],.ms 5 1 t.length 0 t.length,I 0]=some [.pt [.sl false ((seqI (intT t)).map insAV),I 0,NV (t.length+1)],.sl false (o.map I),I 0]:=by
  have e1:thw1 G (.pt [.sl false ((seqI (intT t)).map insAV),I 0,NV (t.length+1)])=some (.pt [.sl false ((seqI (intT t)).map insAV),I 0,NV (t.length+1)]):=by
   simp only[thw1,h1,if_true]
  have e2:thw1 G (.ms 5 1 t.length 0 t.length)=some (.sl false (o.map I)):=by
   simp only[thw1,hr]
   rw[if_pos ⟨by simp[ho],trivial,trivial,trivial,h2⟩]
  have e3:thw1 G (I 0)=some (I 0):=rfl
  simp only[thwA,thw,e1,e2,e3]
 have h:=zGN 12 (by decide) (by decide) (g21 hop hQ hQ0 0 (by omega) ((t.length+1:Nat):Int) o (by omega) 0 (Nat.zero_le _) [])
 have hs:=zJw (t:=intT t) (o:=o) (by rw[zBY];exact ho) (intT t).length 0 none (by omega) (fun j hj=>absurd hj (Nat.not_lt_zero _))
 rw[zBY]at hs
 rw[show o.length+1 - 0=t.length+1 by omega,hs]at h
 unfold evThaw
 simp only[ha]
 have h':call Tryd.prog polX 12 [.pt [.sl false ((seqI (intT t)).map insAV),I 0,NV (t.length+1)],.sl false (o.map I),I 0] []=some (.tup [mat21 false 0 0 (if intT t=o then some (t.length,m18) else none),.bool (if intT t=o then some (t.length,m18) else none).isSome,I 0],[]):=h
 rw[h']
 by_cases e:intT t=o
 ·simp only[e,if_true]
  rfl
 ·simp only[e,if_false]
  rfl
theorem law3 (l:List Int) (hl:∀ x∈l,In64 x) (at_:Int) (hat:In64 at_) (by_:Int) (hby:In64 by_) (H:List MB) :
  call Tryd.prog polX 3 [.sl false (l.map I),I at_,I by_] H=some (.bool true,H):=by
 have h5:∀ H,call Tryd.prog polX 5 [] H=some (.bool true,H):=l19 [4,6,7,8,9,10,11,12,13]
 have h4:∀ H,call Tryd.prog polX 4 [.sl false (l.map I),I 12,.bool true] H=some (.sl false ((textI l 12 true).map I),H):=fun H=>zGN 4 (by decide) (by decide) (f22 l hl 12 (by omega) true H)
 obtain⟨t,ht,hok,hlen⟩:=zK4 l
 rw[ht]at h4
 have hiT:(intT t).map I=t.map NI:=by simp[intT]
 rw[hiT]at h4
 refine zAS Tryd.func3 rfl rfl rfl rfl rfl rfl (fun _=>rfl) (by simp[AV.plain,AV.plainL,zAF,zAG,zAH,zAI]) (by simp[AV.plain,AV.plainL,zAF,zAG,zAH,zAI]) ?_ H
 by_cases h2:t.length < 2
 ·have hlt:((t.length:Int) < 2)=True:=eq_true (by omega)
  simp +contextual (disch:=omega) only[Tryd.f3,dd3,go_sem,simprocAttr,mu3,↓zAE,↓zAC,↓zAB,↓zAA,zCT,zBq,zBp,zCS,zCU,h4,hlt,h5]
  exact⟨_,rfl⟩
 have hlt:((t.length:Int) < 2)=False:=eq_false (by omega)
 have h6:=fun x H=>zGN 6 (by decide) (by decide) (f6 x H)
 simp +contextual (disch:=omega) only[Tryd.f3,dd3,go_sem,simprocAttr,mu3,↓zAE,↓zAC,↓zAB,↓zAA,zCT,zBq,zBp,zCS,zCU,h4,hlt,h5]
 refine zAY (M:=(mskOf (polX.mask 3) (polX.gc 3) (polX.acts 3) 0 6)) (by rfl) t.length (fun i=>(⟨157,[(9,NV i),(8,.rf 0 1 0 0),(7,.sl false (t.map NI)),(2,I by_),(1,I at_)],[.row 8 [.agg [I 2,.sl true [],.ms 1 8 i 0 i,I 0,I 0,I 0,I 0,.bool false]] 0,.row 8 ((t.take i).map setAV) 0]⟩:St)) (fun _=>True) ?_ ?_ trivial _ ?_
 ·intro i hi _
  obtain⟨x,hx⟩:∃ x,t[i]?=some x:=⟨_,List.getElem?_eq_getElem hi⟩
  have hltt:((i:Int) < ((t.length:Nat):Int))=True:=eq_true (by omega)
  have hwi:IntKind.i64.wrap ((i:Int)+1)=((i+1:Nat):Int):=by rw[i64_in]<;>omega
  have hlen2:(t.take i).length=i:=by simp;omega
  rw[List.take_add_one,hx]
  generalize t.take i=ys at *
  have htk:=zEL (f:=setAV) hlen2
  simp +contextual (disch:=omega) only[Tryd.f3,dd3,go_sem,simprocAttr,mu3,↓zAE,↓zAC,↓zAB,↓zAA,zCT,zBq,zBp,zCS,zCU,hx,hltt,hwi,h6,zAR,hlen2,htk]
  repeat' (first|intro _|apply And.intro|(unfold dOk;kernel_rfl)|exact St.beq_refl _|(show altO _ _ _ _=true;kernel_rfl)|(show (_ || _)=true;kernel_rfl)|(show (_ && _)=true;kernel_rfl))
  all_goals rfl
 ·intro _
  rw[List.take_length]
  have hge:((t.length:Int) < (t.length:Int))=False:=eq_false (Int.lt_irrefl _)
  have h7:=fun H=>zGN 7 (by decide) (by decide) (f7 t hok (by omega) H)
  obtain⟨c,hc⟩:∃ c:Code×Code,c=rfOf Tryd.prog 8:=⟨_,rfl⟩
  have h8:=zGN 8 (by decide) (by decide) (f8 (.row 8 [.agg [I 2,.sl true [],.ms 1 8 t.length 0 t.length,I 0,I 0,I 0,I 0,.bool false]] 0) (.row 8 (t.map setAV) 0) t hok (by omega) (by simp[MB.under,AV.underL,AV.under]) (by simp[MB.under,zAD,zFo]) c hc)
  have h9:=x9 hok (by omega) hlen
  have hac:=zJA hok hlen
  obtain⟨_,⟨xs,fk,hex,rfl⟩,h12⟩:=g12 ⟨seqI (intT t),0,true⟩ (zKc hlen) hac
  obtain⟨rfl,hxl,syms,hsy⟩:=zG8 hex
  have hop:=zIm hac
  obtain⟨hQ,hQ0⟩:=zKR hop hsy hex
  rw[if_neg (by simp),hxl]at h12
  have h10:=fun H=>zGN 10 (by decide) (by decide) (h12 H)
  have h11:=fun H=>zGN 11 (by decide) (by decide) (g17 (seqI (intT t)) 0 ((t.length+1:Nat):Int) H)
  simp only[deE]at h8
  have hnp:ofK (Value.pointer none)=.nilp:=rfl
  have hn1:IntKind.i64.wrap ((t.length:Int)+1)=((t.length+1:Nat):Int):=by rw[i64_in]<;>omega
  have t12:=fun a b c d e R=>@x12 t hop _ hQ hQ0 hlen (intT t) (zBY t) (a::b::c::d::e::.row 1 ((intT t).map I) 0::R) rfl
  simp only[if_true,decide_true,hiT]at t12
  obtain⟨k,hk,hkl⟩:∃ k:Nat,aroundI at_ t.length=(k:Int)∧k < t.length:=by
   have:=zHq (n:=at_) (m:=(t.length:Int)) (by omega)
   exact⟨(aroundI at_ t.length).toNat,by omega,by omega⟩
  have h13:=fun H=>zGN 13 (by decide) (by decide) (f12 at_ t.length hat (by omega) H)
  rw[hk]at h13
  obtain⟨s,hs⟩:∃ s,t[k]?=some s:=⟨_,List.getElem?_eq_getElem hkl⟩
  have u12:=fun a b c d e R=>@x12 t hop _ hQ hQ0 hlen ((intT t).set k by_) (by simp[zBY]) (a::b::c::d::e::.row 1 (((intT t).set k by_).map I) 0::R) rfl
  have hiS:((intT t).set k by_).map I=(t.map NI).set k (I by_):=by rw[List.map_set,hiT]
  rw[hiS]at u12
  have hkl1:((k:Int) < (t.length:Int))=True:=eq_true (by omega)
  have hsI:(intT t)[k]?=some (s:Int):=by rw[zKi,hs];rfl
  by_cases hb:by_=(s:Int)
  ·subst hb
   have e1:intT t=(intT t).set k (s:Int):=by
    refine List.ext_getElem? fun j=>?_
    rw[List.getElem?_set]
    split
    ·rename_i e;subst e;rw[if_pos (by rw[zBY];exact hkl),hsI]
    ·rfl
   rw[if_pos e1,decide_eq_true e1]at u12
   have hbe:((s:Int) == (s:Int))=true:=by simp
   simp +contextual (disch:=omega) only[Tryd.f3,dd3,go_sem,simprocAttr,mu3,↓zAE,↓zAC,↓zAB,↓zAA,zCT,zBq,zBp,zCS,zCU,hge,h7,h8,h9,h10,h11,hnp,hn1,t12,h13,u12,hkl1,zAR,hs,hbe,h5,beq_self_eq_true]
   repeat' (first|intro _|apply And.intro|(unfold dOk;kernel_rfl)|exact St.beq_refl _|(show altO _ _ _ _=true;kernel_rfl)|(show (_ || _)=true;kernel_rfl)|(show (_ && _)=true;kernel_rfl))
   exact⟨_,rfl⟩
  ·have e1:¬ intT t=(intT t).set k by_:=fun e=>hb (by
    have:=congrArg (fun l:List Int=>l[k]?) e
    simp only[hsI,List.getElem?_set_self (show k < (intT t).length by rw[zBY];exact hkl),Option.some.injEq]at this
    exact this.symm)
   rw[if_neg e1,decide_eq_false e1]at u12
   have hbe:(by_ == (s:Int))=false:=by simp[hb]
   simp +contextual (disch:=omega) only[Tryd.f3,dd3,go_sem,simprocAttr,mu3,↓zAE,↓zAC,↓zAB,↓zAA,zCT,zBq,zBp,zCS,zCU,hge,h7,h8,h9,h10,h11,hnp,hn1,t12,h13,u12,hkl1,zAR,hs,hbe,h5,hb,beq_self_eq_true]
   repeat' (first|intro _|apply And.intro|(unfold dOk;kernel_rfl)|exact St.beq_refl _|(show altO _ _ _ _=true;kernel_rfl)|(show (_ || _)=true;kernel_rfl)|(show (_ && _)=true;kernel_rfl))
   exact⟨_,rfl⟩
 ·rfl
end
end Go.Ev
