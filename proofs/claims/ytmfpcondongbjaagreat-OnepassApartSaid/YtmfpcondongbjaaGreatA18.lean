/- Functions of the program, each with what it computes; no further conditions. -/
import Derived.Test.YtmfpcondongbjaaGreatA07
import Derived.Test.YtmfpcondongbjaaGreatA17
set_option linter.unusedVariables false
set_option linter.unusedSimpArgs false
namespace Go.Ev
attribute [local go_sem] zAm evAppend evBin evBuild AV.cells splice List.length_append List.map_append tySzE List.head?_drop Nat.mul_one zAO zAT zAN zAP zAQ zAZ
section
open Go.Proofs Go.RowKit Go.IntWalk
set_option maxRecDepth 100000
set_option maxHeartbeats 8000000
theorem call_frz {P:Program} {pol:Pol} {f:Nat} {args l:List AV} {H H1:List MB} (hp:pol.pure f=true) (h:frzArgs pol f 0 args H=some (l,H1)) (ha:AV.plainL l=true) :
  call P pol f args H=call P pol f l H1:=by
 have hf:∀(l:List AV) (i:Nat),AV.plainL l=true→frzArgs pol f i l H1=some (l,H1):=by
  intro l
  induction l with
  | nil=>intro i _;rfl
  | cons x l ih=>
    intro i h
    simp only[AV.plainL,Bool.and_eq_true]at h
    simp only[frzArgs,zAh H1 h.1,ih (i+1) h.2]
    split<;>simp_all
 rw[zBD,zBD]
 unfold evStep
 simp only[hp,if_true,h,hf l 0 ha]
abbrev wayIA (e:WayI):AV:=wayPAV e.w.pc e.w.at_ e.idle e.found e.w.regs
theorem zF3 (l:List WayI):AV.plainL (stA wayIA l)=true:=by
 rw[zEO]
 intro x hx
 obtain⟨w,_,rfl⟩:=List.mem_map.1 hx
 simp[AV.plain,AV.plainL,zAE]
structure S23 where
 todo:List WayI
 junk:List AV
 out:List Way
 fuel:Nat
def m1s:List Int:=List.replicate 18 (-1)
def T23 (g:Prg) (t:List Int) (pos:Int) (most:Int) (n:Nat) (s:S23):St:=
 (⟨172,[(16,.ms 3 5 (s.todo.length+s.junk.length) 0 s.todo.length),(15,.ms 2 3 s.out.length 0 s.out.length),(5,prgPt g),(4,I s.fuel),(3,I most),(2,I pos),(1,.sl false (t.map I))],[.row 3 [prgAV g] 1,
   .row 18 [.agg (m1s.map I)] 1,.row 3 (s.out.map fun w=>mA (matOf pos n w)) 0,.row 5 (stA wayIA s.todo++s.junk) 0]⟩:St)
structure S23i where
 e:WayI
 todo:List WayI
 junk:List AV
 out:List Way
 fuel:Nat
def T23i (g:Prg) (t:List Int) (pos:Int) (most:Int) (n:Nat) (s:S23i):St:=
 (⟨172,[(17,.rf 4 1 0 0),(16,.ms 3 5 (s.todo.length+s.junk.length) 0 s.todo.length),(15,.ms 2 3 s.out.length 0 s.out.length),(5,prgPt g),(4,I s.fuel),(3,I most),(2,I pos),(1,.sl false (t.map I))],[.row 3 [prgAV g] 1,
   .row 18 [.agg (m1s.map I)] 1,.row 3 (s.out.map fun w=>mA (matOf pos n w)) 0,.row 5 (stA wayIA s.todo++s.junk) 0,.row 5 [wayIA s.e] 0]⟩:St)
theorem runI_nil {p:Prog1} {n:Nat} {most:Int} {fuel:Nat} {out:List Way}:runI p n most fuel [] out=some out:=by unfold runI;rfl
theorem runI_full {p:Prog1} {n:Nat} {most:Int} {fuel:Nat} {w:WayI} {rest:List WayI} {out:List Way} (h:(out.length:Int)=most):runI p n most fuel (w::rest) out=some out:=by
 unfold runI
 simp only[h,if_true]
theorem runI_zero {p:Prog1} {n:Nat} {most:Int} {w:WayI} {rest:List WayI} {out:List Way} (h:¬ (out.length:Int)=most):runI p n most 0 (w::rest) out=none:=by
 unfold runI
 simp only[h,if_false]
theorem runI_circ {p:Prog1} {n:Nat} {most:Int} {fuel:Nat} {w:WayI} {rest:List WayI} {out:List Way} (h:¬ (out.length:Int)=most) (hc:n≤w.idle∧(most = -1∨w.found=out.length)):runI p n most (fuel+1) (w::rest) out=none:=by
 unfold runI
 simp only[h,hc,and_self,if_true,if_false]
theorem runI_step {p:Prog1} {n:Nat} {most:Int} {fuel:Nat} {w:WayI} {rest:List WayI} {out:List Way} (h:¬ (out.length:Int)=most) (hc:¬ (n≤w.idle∧(most = -1∨w.found=out.length))) :
  runI p n most (fuel+1) (w::rest) out=match nextI p w (if n≤w.idle then 1 else w.idle+1) (if n≤w.idle then out.length else w.found) out.length (stepW p w.w) with
   | none=>runI p n most fuel rest (out++[w.w])
   | some l=>runI p n most fuel (l++rest) out:=by
 conv=>lhs;unfold runI
 simp only[h,hc,if_false]
 rfl
theorem circ_step (g:Prg) (p:Prog1) (hg:1≤g.ins.length∧g.ins.length≤8192) (most:Int) (fuel:Nat) (e:WayI) (hi:e.idle≤g.ins.length) (rest:List WayI) (out:List Way) (hf:e.found≤out.length) (ho:¬ (out.length:Int)=most) (hc:¬ (g.ins.length≤e.idle∧(most = -1∨e.found=out.length))) :
  ∃ i' d':Nat,i'≤g.ins.length∧d'≤out.length ∧
    (∀ b0 b1 b2 b3:MB,call Tryz.prog pol1 64 [prgPt g,.rf 4 1 0 0,I out.length,I most] [b0,b1,b2,b3,.row 5 [wayIA e] 0]=some (.bool false,[b0,b1,b2,b3,.row 5 [wayPAV e.w.pc e.w.at_ i' d' e.w.regs] 0])) ∧
    runI p g.ins.length most (fuel+1) (e::rest) out=match nextI p e i' d' out.length (stepW p e.w) with
     | none=>runI p g.ins.length most fuel rest (out++[e.w])
     | some l=>runI p g.ins.length most fuel (l++rest) out:=by
 have hcast:((e.found:Int)=(out.length:Int))↔e.found=out.length:=by omega
 have h59:=fun b0 b1 b2 b3=>f59 g (by omega) e.w.pc e.w.at_ out.length most e.idle e.found (by omega) e.w.regs [b0,b1,b2,b3,.row 5 [wayIA e] 0] 4 rfl
 simp only[hcast,hc,if_false]at h59
 have hs:=runI_step (fuel:=fuel) (rest:=rest) (p:=p) ho hc
 by_cases h1:g.ins.length≤e.idle
 ·simp only[h1,if_true]at h59 hs
  exact⟨1,out.length,hg.1,Nat.le_refl _,h59,hs⟩
 ·simp only[h1,if_false]at h59 hs
  exact⟨e.idle+1,e.found,by omega,hf,h59,hs⟩
theorem circ_true (g:Prg) (hg:1≤g.ins.length∧g.ins.length≤8192) (most:Int) (e:WayI) (hi:e.idle≤g.ins.length) (out:List Way) (hc:g.ins.length≤e.idle∧(most = -1∨e.found=out.length)) (b0 b1 b2 b3:MB) :
  call Tryz.prog pol1 64 [prgPt g,.rf 4 1 0 0,I out.length,I most] [b0,b1,b2,b3,.row 5 [wayIA e] 0]=some (.bool true,[b0,b1,b2,b3,.row 5 [wayPAV e.w.pc e.w.at_ ((e.idle+1:Nat):Int) e.found e.w.regs] 0]):=by
 have h59:=f59 g (by omega) e.w.pc e.w.at_ out.length most e.idle e.found (by omega) e.w.regs [b0,b1,b2,b3,.row 5 [wayIA e] 0] 4 rfl
 rw[h59,if_pos ⟨hc.1,hc.2.imp id (fun h=>by omega)⟩]
 rfl
theorem top_match (g:Prg) (pc pos idle found start:Int) (regs:List Int) (n:Nat) (hc:g.caps=n) (hr:regs.length=18) (hn:n≤9) (b0 b1 b2 b3:MB) :
  call Tryz.prog pol1 65 [prgPt g,.rf 4 1 0 0,I start] [b0,b1,b2,b3,.row 5 [wayPAV pc pos idle found regs] 0]=some (matAV start pos (capsN regs n),[b0,b1,b2,b3,.row 5 [wayPAV pc pos idle found regs] 1]):=by
 rw[call_frz (l:=[prgPt g,.pt [I pc,I pos,I idle,I found,.pt (regs.map I)],I start]) (H1:=[b0,b1,b2,b3,.row 5 [wayPAV pc pos idle found regs] 1]) rfl ?_ (by simp[AV.plain,AV.plainL,zAE,zAH])]
 ·exact f60 g pc pos idle found start regs n hc hr hn _
 ·have h1:fz (prgPt g) [b0,b1,b2,b3,.row 5 [wayPAV pc pos idle found regs] 0]=some (prgPt g,[b0,b1,b2,b3,.row 5 [wayPAV pc pos idle found regs] 0]):=zAh _ (by simp[AV.plain,AV.plainL,zAH])
  have h2:fz (.rf 4 1 0 0) [b0,b1,b2,b3,.row 5 [wayPAV pc pos idle found regs] 0]=some (.pt [I pc,I pos,I idle,I found,.pt (regs.map I)],[b0,b1,b2,b3,.row 5 [wayPAV pc pos idle found regs] 1]):=
   zGM (x:=wayPAV pc pos idle found regs) (k:=5) (z:=0) rfl rfl rfl (by simp[AV.cells,AV.plain,AV.plainL,zAE])
  have h3:∀ H,fz (I start) H=some (I start,H):=fun H=>rfl
  have hby:∀ i,pol1.byref 65 i=false:=fun i=>rfl
  simp only[frzArgs,hby,Bool.false_eq_true,if_false,h1,h2,h3]
theorem f23 (g:Prg) (hb:PrgB g) (t:List Int) (pos most fuel:Int) (n:Nat) (hn:g.caps=n) (hc:checkG g t.length pos most fuel=0) (hf2:fuel≤2000000) (H:List MB) :
  call Tryz.prog pol1 32 [prgAV g,.sl false (t.map I),I pos,I most,I fuel] H =
   some (resA pos n (runI (progOf g t) g.ins.length most fuel.toNat [⟨⟨0,pos.toNat,m1s⟩,0,0⟩] []),H):=by
 have h58:=fun ht=>f58 g hb t ht pos most fuel
 rw[hc]at h58
 unfold checkG at hc
 split at hc
 ·rename_i h;exact absurd hc h
 rename_i hv
 split at hc
 ·cases hc
 rename_i hlen
 split at hc
 ·cases hc
 rename_i hrange
 split at hc
 ·cases hc
 rename_i hfuel
 have hv:validG g=0:=by simpa using hv
 have hok:=zHi hv
 have h58:=h58 (by omega)
 have hcaps:=hok.caps
 have hglen:=hok.len
 obtain⟨p0,rfl⟩:∃ p0:Nat,pos=p0:=⟨pos.toNat,by omega⟩
 obtain⟨f0,rfl⟩:∃ f0:Nat,fuel=f0:=⟨fuel.toNat,by omega⟩
 simp only[Int.toNat_natCast]
 refine zAS Tryz.func32 rfl rfl rfl rfl rfl rfl (fun _=>rfl) (by simp[AV.plain,AV.plainL,zAE,zAH]) (plain_resA _ _ _) ?_ H
 generalize hR:runI (progOf g t) g.ins.length most f0 [⟨⟨0,p0,m1s⟩,0,0⟩] []=R
 have hzg:=fz_prg g
 simp +contextual (disch:=omega) only[Tryz.f32,dd32,go_sem,simprocAttr,mu32,↓zAD,↓zAC,↓zAB,↓zAA,h58,hzg,lookD,look]
 clear h58
 refine zAe (M:=(mskOf (pol1.mask 32) (pol1.gc 32) (pol1.acts 32) 0 6)) rfl 18 (fun i=>(⟨172,[(32,I i),(13,.rf 1 1 0 0),(5,prgPt g),(4,I f0),(3,I most),(2,I p0),(1,.sl false (t.map I))],[.row 3 [prgAV g] 1,.row 18 [.agg ((List.replicate i (-1:Int)).map I++(List.replicate (18 - i) (0:Int)).map I)] 0]⟩:St))
  (fun i=>True) ?_ ?_ trivial _ (by first|rfl|(refine zAX (n:=2) (m:=⟨some [32,13,5,4,3,2,1],some 2,[]⟩) rfl rfl ?_ ?_ ?_<;>first|rfl|(simp[keepT,AV.underL,AV.under,MB.under,zAF,zAJ,zAK,zAE,zAG,zAH,zAI,-List.map_take,-List.map_replicate,-List.map_set];done)|(simp[keepT,AV.underL,AV.under,MB.under,zAF,zAJ,zAK,zAE,zAG,zAH,zAI,-List.map_take,-List.map_replicate,-List.map_set];omega)))
 ·intro i hi _
  have hlen:((List.replicate i (-1:Int)).map I).length=i:=by simp
  have hnx:(List.replicate (i+1) (-1:Int)).map I=(List.replicate i (-1)).map I++[I (-1)]:=by rw[List.replicate_succ'];simp
  have hsp:(List.replicate (18 - i) (0:Int)).map I=I 0::(List.replicate (18 - (i+1)) (0:Int)).map I:=by
   rw[show 18 - i=(18 - (i+1))+1 by omega,List.replicate_succ];rfl
  rw[hnx,hsp]
  have hl2:((List.replicate (18 - (i+1)) (0:Int)).map I).length=18 - (i+1):=by simp
  have pl1:=zAE (List.replicate i (-1:Int))
  have pl2:=zAE (List.replicate (18 - (i+1)) (0:Int))
  generalize (List.replicate i (-1:Int)).map I=A at *
  generalize (List.replicate (18 - (i+1)) (0:Int)).map I=B at *
  have htk:=fun B=>zHV hlen B
  have hd1:=fun x B=>drop_top hlen x B
  simp +contextual (disch:=omega) only[Tryz.f32,dd32,go_sem,simprocAttr,mu32,↓zAD,↓zAC,↓zAB,↓zAA,hlen,htk,hd1,Nat.mul_one]
  repeat' (first|intro _|apply And.intro|(unfold dOk;kernel_rfl)|exact St.beq_refl _|(show altO _ _ _ _=true;kernel_rfl)|(show (_ || _)=true;kernel_rfl)|(show (_ && _)=true;kernel_rfl))
  exact(by first|rfl|(refine zAX (n:=2) (m:=⟨some [32,13,5,4,3,2,1],some 2,[]⟩) rfl rfl ?_ ?_ ?_<;>first|rfl|(simp[keepT,AV.underL,AV.under,MB.under,zAF,zAJ,zAK,zAE,zAG,zAH,zAI,-List.map_take,-List.map_replicate,-List.map_set,pl1,pl2];done)|(simp[keepT,AV.underL,AV.under,MB.under,zAF,zAJ,zAK,zAE,zAG,zAH,zAI,-List.map_take,-List.map_replicate,-List.map_set,pl1,pl2];omega)))
 ·intro _
  have hm1:(List.replicate 18 (-1:Int)).map I++(List.replicate (18 - 18) (0:Int)).map I=m1s.map I:=by simp[m1s]
  rw[hm1]
  have hlm:m1s.length=18:=by simp[m1s]
  have hz:∀ b0:MB,fz (.rf 1 1 0 0) [b0,.row 18 [.agg (m1s.map I)] 0]=some (.pt (m1s.map I),[b0,.row 18 [.agg (m1s.map I)] 1]):=fun b0=>
   zGM (x:=.agg (m1s.map I)) (k:=18) (z:=0) rfl rfl rfl (zAE m1s)
  simp +contextual (disch:=omega) only[Tryz.f32,dd32,go_sem,simprocAttr,mu32,↓zAD,↓zAC,↓zAB,↓zAA,hz,lookD,look]
  refine zEq (M:=(mskOf (pol1.mask 32) (pol1.gc 32) (pol1.acts 32) 0 12)) rfl (T23 g t p0 most n) (fun s=>R=runI (progOf g t) g.ins.length most s.fuel s.todo s.out∧(∀ e∈s.todo,WayOk g t 18 e.w∧e.idle≤g.ins.length∧e.found≤s.out.length)∧s.fuel+s.out.length≤2000000∧s.todo.length+s.fuel≤2000002∧AV.plainL s.junk=true)
   (fun s=>s.fuel) ⟨[⟨⟨0,p0,m1s⟩,0,0⟩],[],[],f0⟩ ?_ ⟨hR.symm,?_,?_,?_,rfl⟩ _ ?_
  ·rintro⟨todo,junk,out,fuel⟩ ⟨hr,hw,ho,hl,hj⟩
   simp only at hr hw ho hl hj
   simp only[T23]
   have fin:∀(H':List MB),getRow H' 2=some (3,out.map fun w=>mA (matOf p0 n w),0)→R=some out→∃ H2,fz (.tup [.ms 2 3 out.length 0 out.length,I 0]) H' = some (resA p0 n R,H2):=by
    intro H' h1 h2
    rw[h2]
    exact fz_tup_row h1 (by simp) (zEe _ _ _)
   cases todo with
   | nil=>
     rw[runI_nil]at hr
     simp only[stA,List.reverse_nil,List.map_nil,List.length_nil]
     simp +contextual (disch:=omega) only[Tryz.f32,dd32,go_sem,simprocAttr,mu32,↓zAD,↓zAC,↓zAB,↓zAA]
     exact fin _ rfl hr
   | cons w rest=>
     have hww:=hw w (List.mem_cons_self ..)
     have hrest:∀ v∈rest,WayOk g t 18 v.w∧v.idle≤g.ins.length∧v.found≤out.length:=fun v hv=>hw v (List.mem_cons_of_mem _ hv)
     have hls:=stA_len wayIA rest
     have hpl:=zF3 rest
     rw[stA_cons]
     simp only[List.length_cons]at hl ⊢
     by_cases hm:(out.length:Int)=most
     ·rw[runI_full hm]at hr
      simp +contextual (disch:=omega) only[Tryz.f32,dd32,go_sem,simprocAttr,mu32,↓zAD,↓zAC,↓zAB,↓zAA]
      exact fin _ rfl hr
     ·have htop:=get_top hls (wayIA w) junk
      have htk:=fun B=>zHV hls B
      have hd1:=fun x B=>drop_top hls x B
      have hd2:=fun x y B=>drop_top2 hls x y B
      have htot:(stA wayIA rest).length+(junk.length+1)=rest.length+1+junk.length:=by omega
      simp +contextual (disch:=omega) only[Tryz.f32,dd32,go_sem,simprocAttr,mu32,↓zAD,↓zAC,↓zAB,↓zAA,htop,htot,Nat.add_sub_cancel,Nat.sub_zero]
      refine zEq (M:=(mskOf (pol1.mask 32) (pol1.gc 32) (pol1.acts 32) 0 15)) rfl (T23i g t p0 most n) (fun s=>R=runI (progOf g t) g.ins.length most s.fuel (s.e::s.todo) s.out∧¬ (s.out.length:Int)=most ∧
        (WayOk g t 18 s.e.w∧s.e.idle≤g.ins.length∧s.e.found≤s.out.length)∧(∀ e∈s.todo,WayOk g t 18 e.w∧e.idle≤g.ins.length∧e.found≤s.out.length)∧s.fuel+s.out.length≤2000000∧s.todo.length+1+s.fuel≤2000002∧AV.plainL s.junk=true∧s.fuel≤fuel)
       (fun s=>s.fuel) ⟨w,rest,wayIA w::junk,out,fuel⟩ ?_ ⟨hr,hm,hww,hrest,ho,hl,by simp[AV.plainL,AV.plain,zAE,hj],Nat.le_refl _⟩ _ (by first|rfl|(refine zAX (n:=5) (m:=⟨some [17,16,15,5,4,3,2,1],some 5,[]⟩) rfl rfl ?_ ?_ ?_<;>first|rfl|(simp[keepT,AV.underL,AV.under,MB.under,zAF,zAJ,zAK,zAE,zAG,zAH,zAI,-List.map_take,-List.map_replicate,-List.map_set,T23i,hj,hpl,zAb,matOf,matAV];done)|(simp[keepT,AV.underL,AV.under,MB.under,zAF,zAJ,zAK,zAE,zAG,zAH,zAI,-List.map_take,-List.map_replicate,-List.map_set,T23i,hj,hpl,zAb,matOf,matAV];omega)))
      clear hr hm hww hrest ho hl hj htop htk hd1 hd2 htot hls hpl fin hw
      generalize hff0:fuel=fuel0
      clear hff0
      rintro⟨e,todo,junk,out,fuel⟩ ⟨hr,hm,hww,hrest,ho,hl,hj,hfl⟩
      simp only at hr hm hww hrest ho hl hj hfl
      simp only[T23i]
      have hls:=stA_len wayIA todo
      have hpl:=zF3 todo
      cases fuel with
      | zero=>
        rw[runI_zero hm]at hr
        subst hr
        simp +contextual (disch:=omega) only[Tryz.f32,dd32,go_sem,simprocAttr,mu32,↓zAD,↓zAC,↓zAB,↓zAA]
        exact⟨_,rfl⟩
      | succ fuel=>
        by_cases hcirc:g.ins.length≤e.idle∧(most = -1∨e.found=out.length)
        ·rw[runI_circ hm hcirc]at hr
         subst hr
         have h59:=circ_true g hglen most e hww.2.1 out hcirc
         simp +contextual (disch:=omega) only[Tryz.f32,dd32,go_sem,simprocAttr,mu32,↓zAD,↓zAC,↓zAB,↓zAA,h59]
         exact⟨_,rfl⟩
        ·obtain⟨i',d',hi',hd',h59,hrun⟩:=circ_step g (progOf g t) hglen most fuel e hww.2.1 todo out hww.2.2 hm hcirc
         rw[hrun]at hr
         clear hrun
         obtain⟨⟨op,x,y,nn,set⟩,hi⟩:∃ i,g.ins[e.w.pc]?=some i:=⟨_,List.getElem?_eq_getElem hww.1.pc⟩
         have hpi:(progOf g t).ins e.w.pc=some ⟨op,x,y,nn,set⟩:=hi
         have hok1:=hok.ok _ (List.mem_of_getElem? hi)
         have hop:=zHl hok1
         have hff:=zHk hok1
         have hnx:=hok.next hi
         have hset:=hb.2 _ (List.mem_of_getElem? hi)
         have hstep:=fun l=>step_ok hok hww.1 (l:=l)
         have hwp:=hww.1.pc
         have hwa:=hww.1.at_
         have hwr:=hww.1.regs
         have htk:=fun B=>zHV hls B
         have hd1:=fun x B=>drop_top hls x B
         simp only at hop hff hnx hset
         rcases hop with rfl|rfl|rfl|rfl|rfl|rfl
         ·have hs:stepW (progOf g t) e.w=.done:=by simp[stepW,hpi]
          rw[hs]at hr
          simp only[nextI]at hr
          have h60:=top_match g (((e.w.pc+1:Nat):Int)) e.w.at_ i' d' p0 e.w.regs n hn hwr (by omega)
          simp only[matAV]at h60
          have hto:List.take out.length (out.map fun w=>mA (matOf p0 n w))=(out.map fun w=>mA (matOf p0 n w)):=zCt rfl
          simp +contextual (disch:=omega) only[Tryz.f32,dd32,go_sem,simprocAttr,mu32,↓zAD,↓zAC,↓zAB,↓zAA,hi,h59,h60,hto,Nat.sub_zero]
          repeat' (first|intro _|apply And.intro|(unfold dOk;kernel_rfl)|exact St.beq_refl _|(show altO _ _ _ _=true;kernel_rfl)|(show (_ || _)=true;kernel_rfl)|(show (_ && _)=true;kernel_rfl))
          refine⟨⟨todo,junk,out++[e.w],fuel⟩,⟨hr,fun v hv=>⟨(hrest v hv).1,(hrest v hv).2.1,by have:=(hrest v hv).2.2;simp;omega⟩,by simp;omega,by simp only[];omega,hj⟩,by simp only[];omega,?_⟩
          exact(by first|rfl|(refine zAX (n:=4) (m:=⟨some [16,15,5,4,3,2,1],some 4,[]⟩) rfl rfl ?_ ?_ ?_<;>first|rfl|(simp[keepT,AV.underL,AV.under,MB.under,zAF,zAJ,zAK,zAE,zAG,zAH,zAI,-List.map_take,-List.map_replicate,-List.map_set,T23,hj,hpl,zAb,matOf,matAV,zBa];done)|(simp[keepT,AV.underL,AV.under,MB.under,zAF,zAJ,zAK,zAE,zAG,zAH,zAI,-List.map_take,-List.map_replicate,-List.map_set,T23,hj,hpl,zAb,matOf,matAV,zBa];omega)))
         ·-- one symbol
          cases htx:t[e.w.at_]? with
          | none=>
            have hle:=List.getElem?_eq_none_iff.1 htx
            have hh:(progOf g t).has set e.w.at_=false:=by simp[progOf,htx]
            have hs:stepW (progOf g t) e.w=.ways []:=by simp[stepW,hpi,hh]
            rw[hs]at hr
            simp only[nextI,List.map_nil,List.nil_append]at hr
            simp +contextual (disch:=omega) only[Tryz.f32,dd32,go_sem,simprocAttr,mu32,↓zAD,↓zAC,↓zAB,↓zAA,hi,h59,Nat.sub_zero]
            repeat' (first|intro _|apply And.intro|(unfold dOk;kernel_rfl)|exact St.beq_refl _|(show altO _ _ _ _=true;kernel_rfl)|(show (_ || _)=true;kernel_rfl)|(show (_ && _)=true;kernel_rfl))
            refine⟨⟨todo,junk,out,fuel⟩,⟨hr,hrest,by simp only[];omega,by simp only[];omega,hj⟩,by simp only[];omega,?_⟩
            exact(by first|rfl|(refine zAX (n:=4) (m:=⟨some [16,15,5,4,3,2,1],some 4,[]⟩) rfl rfl ?_ ?_ ?_<;>first|rfl|(simp[keepT,AV.underL,AV.under,MB.under,zAF,zAJ,zAK,zAE,zAG,zAH,zAI,-List.map_take,-List.map_replicate,-List.map_set,T23,hj,hpl,zAb,matOf,matAV,zBa];done)|(simp[keepT,AV.underL,AV.under,MB.under,zAF,zAJ,zAK,zAE,zAG,zAH,zAI,-List.map_take,-List.map_replicate,-List.map_set,T23,hj,hpl,zAb,matOf,matAV,zBa];omega)))
          | some sy=>
            have hlt:=(List.getElem?_eq_some_iff.1 htx).1
            have h43:=f43 set sy hset
            cases hhas:hasSpan set sy with
            | false=>
              rw[hhas]at h43
              have hh:(progOf g t).has set e.w.at_=false:=by simp[progOf,htx,hhas]
              have hs:stepW (progOf g t) e.w=.ways []:=by simp[stepW,hpi,hh]
              rw[hs]at hr
              simp only[nextI,List.map_nil,List.nil_append]at hr
              simp +contextual (disch:=omega) only[Tryz.f32,dd32,go_sem,simprocAttr,mu32,↓zAD,↓zAC,↓zAB,↓zAA,hi,h59,Nat.sub_zero,h43,htx]
              repeat' (first|intro _|apply And.intro|(unfold dOk;kernel_rfl)|exact St.beq_refl _|(show altO _ _ _ _=true;kernel_rfl)|(show (_ || _)=true;kernel_rfl)|(show (_ && _)=true;kernel_rfl))
              refine⟨⟨todo,junk,out,fuel⟩,⟨hr,hrest,by simp only[];omega,by simp only[];omega,hj⟩,by simp only[];omega,?_⟩
              exact(by first|rfl|(refine zAX (n:=4) (m:=⟨some [16,15,5,4,3,2,1],some 4,[]⟩) rfl rfl ?_ ?_ ?_<;>first|rfl|(simp[keepT,AV.underL,AV.under,MB.under,zAF,zAJ,zAK,zAE,zAG,zAH,zAI,-List.map_take,-List.map_replicate,-List.map_set,T23,hj,hpl,zAb,matOf,matAV,zBa];done)|(simp[keepT,AV.underL,AV.under,MB.under,zAF,zAJ,zAK,zAE,zAG,zAH,zAI,-List.map_take,-List.map_replicate,-List.map_set,T23,hj,hpl,zAb,matOf,matAV,zBa];omega)))
            | true=>
              rw[hhas]at h43
              have hh:(progOf g t).has set e.w.at_=true:=by simp[progOf,htx,hhas]
              have hs:stepW (progOf g t) e.w=.ways [⟨e.w.pc+1,e.w.at_+1,e.w.regs⟩]:=by simp[stepW,hpi,hh]
              have hst:=hstep _ hs
              have hne:¬ e.w.at_+1=e.w.at_:=by omega
              rw[hs]at hr
              simp only[nextI,List.map_nil,List.map_cons,hne,if_false,List.cons_append,List.nil_append]at hr
              simp +contextual (disch:=omega) only[Tryz.f32,dd32,go_sem,simprocAttr,mu32,↓zAD,↓zAC,↓zAB,↓zAA,hi,h59,Nat.sub_zero,h43,htx]
              repeat' (first|intro _|apply And.intro|(unfold dOk;kernel_rfl)|exact St.beq_refl _|(show altO _ _ _ _=true;kernel_rfl)|(show (_ || _)=true;kernel_rfl)|(show (_ && _)=true;kernel_rfl))
              refine⟨⟨⟨⟨e.w.pc+1,e.w.at_+1,e.w.regs⟩,0,out.length⟩,todo,junk,out,fuel⟩,⟨hr,hm,⟨hst _ (List.mem_cons_self ..),by simp only[];omega,by simp only[];omega⟩,hrest,by simp only[];omega,by simp only[];omega,hj,by simp only[];omega⟩,Nat.lt_succ_self _,?_⟩
              exact(by first|rfl|(refine zAX (n:=5) (m:=⟨some [17,16,15,5,4,3,2,1],some 5,[]⟩) rfl rfl ?_ ?_ ?_<;>first|rfl|(simp[keepT,AV.underL,AV.under,MB.under,zAF,zAJ,zAK,zAE,zAG,zAH,zAI,-List.map_take,-List.map_replicate,-List.map_set,T23i,hj,hpl,zAb,matOf,matAV,zBa];done)|(simp[keepT,AV.underL,AV.under,MB.under,zAF,zAJ,zAK,zAE,zAG,zAH,zAI,-List.map_take,-List.map_replicate,-List.map_set,T23i,hj,hpl,zAb,matOf,matAV,zBa];omega)))
         ·-- two ways
          have hs:stepW (progOf g t) e.w=.ways [⟨x.toNat,e.w.at_,e.w.regs⟩,⟨y.toNat,e.w.at_,e.w.regs⟩]:=by simp[stepW,hpi]
          have hst:=hstep _ hs
          have hxy:=hff.1 rfl
          obtain⟨x',rfl⟩:∃ x':Nat,x=x':=⟨x.toNat,by omega⟩
          obtain⟨y',rfl⟩:∃ y':Nat,y=y':=⟨y.toNat,by omega⟩
          simp only[Int.toNat_natCast]at hs hst hr
          rw[hs]at hr
          simp only[nextI,List.map_nil,List.map_cons,if_true,List.cons_append,List.nil_append]at hr
          have hgo:∀(junk':List AV),AV.plainL junk' = true→∀ v∈(⟨⟨y',e.w.at_,e.w.regs⟩,i',d'⟩::todo:List WayI),WayOk g t 18 v.w∧v.idle≤g.ins.length∧v.found≤out.length:=by
           intro _ _ v hv
           rcases List.mem_cons.1 hv with e|e
           ·rw[e];exact⟨hst _ (by simp),hi',hd'⟩
           ·exact hrest v e
          cases junk with
          | nil=>
            have htot0:(stA wayIA todo).length=todo.length:=by omega
            have htk0:List.take todo.length (stA wayIA todo)=stA wayIA todo:=List.take_of_length_le (by omega)
            simp +contextual (disch:=omega) only[Tryz.f32,dd32,go_sem,simprocAttr,mu32,↓zAD,↓zAC,↓zAB,↓zAA,hi,h59,Nat.sub_zero,htot0,htk0]
            repeat' (first|intro _|apply And.intro|(unfold dOk;kernel_rfl)|exact St.beq_refl _|(show altO _ _ _ _=true;kernel_rfl)|(show (_ || _)=true;kernel_rfl)|(show (_ && _)=true;kernel_rfl))
            refine⟨⟨⟨⟨x',e.w.at_,e.w.regs⟩,i',d'⟩,⟨⟨y',e.w.at_,e.w.regs⟩,i',d'⟩::todo,[],out,fuel⟩,⟨hr,hm,⟨hst _ (List.mem_cons_self ..),hi',hd'⟩,hgo [] rfl,by simp only[];omega,by simp;omega,rfl,by simp only[];omega⟩,Nat.lt_succ_self _,?_⟩
            exact(by first|rfl|(refine zAX (n:=5) (m:=⟨some [17,16,15,5,4,3,2,1],some 5,[]⟩) rfl rfl ?_ ?_ ?_<;>first|rfl|(simp[keepT,AV.underL,AV.under,MB.under,zAF,zAJ,zAK,zAE,zAG,zAH,zAI,-List.map_take,-List.map_replicate,-List.map_set,T23i,hj,hpl,zAb,matOf,matAV,zBa];done)|(simp[keepT,AV.underL,AV.under,MB.under,zAF,zAJ,zAK,zAE,zAG,zAH,zAI,-List.map_take,-List.map_replicate,-List.map_set,T23i,hj,hpl,zAb,matOf,matAV,zBa];omega)))
          | cons j0 junk=>
            simp only[AV.plainL,Bool.and_eq_true]at hj
            have hj:=hj.2
            have htot2:(stA wayIA todo).length+(junk.length+1)=todo.length+(junk.length+1):=by omega
            simp only[List.length_cons]
            simp +contextual (disch:=omega) only[Tryz.f32,dd32,go_sem,simprocAttr,mu32,↓zAD,↓zAC,↓zAB,↓zAA,hi,h59,Nat.sub_zero,htot2,htk,hd1]
            repeat' (first|intro _|apply And.intro|(unfold dOk;kernel_rfl)|exact St.beq_refl _|(show altO _ _ _ _=true;kernel_rfl)|(show (_ || _)=true;kernel_rfl)|(show (_ && _)=true;kernel_rfl))
            refine⟨⟨⟨⟨x',e.w.at_,e.w.regs⟩,i',d'⟩,⟨⟨y',e.w.at_,e.w.regs⟩,i',d'⟩::todo,junk,out,fuel⟩,⟨hr,hm,⟨hst _ (List.mem_cons_self ..),hi',hd'⟩,hgo junk hj,by simp only[];omega,by simp;omega,hj,by simp only[];omega⟩,Nat.lt_succ_self _,?_⟩
            exact(by first|rfl|(refine zAX (n:=5) (m:=⟨some [17,16,15,5,4,3,2,1],some 5,[]⟩) rfl rfl ?_ ?_ ?_<;>first|rfl|(simp[keepT,AV.underL,AV.under,MB.under,zAF,zAJ,zAK,zAE,zAG,zAH,zAI,-List.map_take,-List.map_replicate,-List.map_set,T23i,hj,hpl,zAb,matOf,matAV,zBa];done)|(simp[keepT,AV.underL,AV.under,MB.under,zAF,zAJ,zAK,zAE,zAG,zAH,zAI,-List.map_take,-List.map_replicate,-List.map_set,T23i,hj,hpl,zAb,matOf,matAV,zBa];omega)))
         ·-- a jump
          have hs:stepW (progOf g t) e.w=.ways [⟨x.toNat,e.w.at_,e.w.regs⟩]:=by simp[stepW,hpi]
          have hst:=hstep _ hs
          have hxy:=hff.2.1 rfl
          obtain⟨x',rfl⟩:∃ x':Nat,x=x':=⟨x.toNat,by omega⟩
          simp only[Int.toNat_natCast]at hs hst hr
          rw[hs]at hr
          simp only[nextI,List.map_nil,List.map_cons,if_true,List.cons_append,List.nil_append]at hr
          simp +contextual (disch:=omega) only[Tryz.f32,dd32,go_sem,simprocAttr,mu32,↓zAD,↓zAC,↓zAB,↓zAA,hi,h59,Nat.sub_zero]
          repeat' (first|intro _|apply And.intro|(unfold dOk;kernel_rfl)|exact St.beq_refl _|(show altO _ _ _ _=true;kernel_rfl)|(show (_ || _)=true;kernel_rfl)|(show (_ && _)=true;kernel_rfl))
          refine⟨⟨⟨⟨x',e.w.at_,e.w.regs⟩,i',d'⟩,todo,junk,out,fuel⟩,⟨hr,hm,⟨hst _ (List.mem_cons_self ..),by simp only[];omega,by simp only[];omega⟩,hrest,by simp only[];omega,by simp only[];omega,hj,by simp only[];omega⟩,Nat.lt_succ_self _,?_⟩
          exact(by first|rfl|(refine zAX (n:=5) (m:=⟨some [17,16,15,5,4,3,2,1],some 5,[]⟩) rfl rfl ?_ ?_ ?_<;>first|rfl|(simp[keepT,AV.underL,AV.under,MB.under,zAF,zAJ,zAK,zAE,zAG,zAH,zAI,-List.map_take,-List.map_replicate,-List.map_set,T23i,hj,hpl,zAb,matOf,matAV,zBa];done)|(simp[keepT,AV.underL,AV.under,MB.under,zAF,zAJ,zAK,zAE,zAG,zAH,zAI,-List.map_take,-List.map_replicate,-List.map_set,T23i,hj,hpl,zAb,matOf,matAV,zBa];omega)))
         ·-- a register
          have hs:stepW (progOf g t) e.w=.ways [⟨e.w.pc+1,e.w.at_,e.w.regs.set nn.toNat e.w.at_⟩]:=by simp[stepW,hpi]
          have hst:=hstep _ hs
          have hxy:=hff.2.2 rfl
          obtain⟨n',rfl⟩:∃ n':Nat,nn=n':=⟨nn.toNat,by omega⟩
          simp only[Int.toNat_natCast]at hs hst hr
          rw[hs]at hr
          simp only[nextI,List.map_nil,List.map_cons,if_true,List.cons_append,List.nil_append]at hr
          have hlm:(e.w.regs.map I).length=18:=by simp[hwr]
          have htk18:List.take 18 (e.w.regs.map I)=e.w.regs.map I:=List.take_of_length_le (by omega)
          have hal:(e.w.regs.map I).all AV.ok=true:=by
           rw[List.all_eq_true]
           intro x hx
           obtain⟨i,_,rfl⟩:=List.mem_map.1 hx
           rfl
          have hst2:List.take n' (e.w.regs.map I)++(I e.w.at_::List.drop (n' + 1) (e.w.regs.map I))=(e.w.regs.set n' e.w.at_).map I:=by
           rw[List.map_set,List.set_eq_take_append_cons_drop,if_pos (by simp;omega)]
          have hz:∀(b0 b1 b2 b3:MB) (pc:Int) (cs:List Int),fzs [.agg [I pc,I e.w.at_,I i',I d',.rf 5 1 0 0]] [b0,b1,b2,b3,.row 5 [.agg [I pc,I e.w.at_,I i',I d',.rf 5 1 0 0]] 0,.row 18 [.agg (cs.map I)] 0] =
            some ([.agg [I pc,I e.w.at_,I i',I d',.pt (cs.map I)]],[b0,b1,b2,b3,.row 5 [.agg [I pc,I e.w.at_,I i',I d',.rf 5 1 0 0]] 0,.row 18 [.agg (cs.map I)] 1]):=by
           intro b0 b1 b2 b3 pc cs
           have h1:fzA (fzJ 6) (.rf 5 1 0 0) [b0,b1,b2,b3,.row 5 [.agg [I pc,I e.w.at_,I i',I d',.rf 5 1 0 0]] 0,.row 18 [.agg (cs.map I)] 0] =
             some (.pt (cs.map I),[b0,b1,b2,b3,.row 5 [.agg [I pc,I e.w.at_,I i',I d',.rf 5 1 0 0]] 0,.row 18 [.agg (cs.map I)] 1]):=
            zGM (x:=.agg (cs.map I)) (k:=18) (z:=0) rfl rfl rfl (zAE cs)
           simp only[fzs,fzL,zH4,zD5,h1]
          simp +contextual (disch:=omega) only[Tryz.f32,dd32,go_sem,simprocAttr,mu32,↓zAD,↓zAC,↓zAB,↓zAA,hi,h59,Nat.sub_zero,hlm,htk18,hal,hst2,hz,AV.beqL_refl]
          repeat' (first|intro _|apply And.intro|(unfold dOk;kernel_rfl)|exact St.beq_refl _|(show altO _ _ _ _=true;kernel_rfl)|(show (_ || _)=true;kernel_rfl)|(show (_ && _)=true;kernel_rfl))
          refine⟨⟨⟨⟨e.w.pc+1,e.w.at_,e.w.regs.set n' e.w.at_⟩,i',d'⟩,todo,junk,out,fuel⟩,⟨hr,hm,⟨hst _ (List.mem_cons_self ..),by simp only[];omega,by simp only[];omega⟩,hrest,by simp only[];omega,by simp only[];omega,hj,by simp only[];omega⟩,Nat.lt_succ_self _,?_⟩
          exact(by first|rfl|(refine zAX (n:=5) (m:=⟨some [17,16,15,5,4,3,2,1],some 5,[]⟩) rfl rfl ?_ ?_ ?_<;>first|rfl|(simp[keepT,AV.underL,AV.under,MB.under,zAF,zAJ,zAK,zAE,zAG,zAH,zAI,-List.map_take,-List.map_replicate,-List.map_set,T23i,hj,hpl,zAb,matOf,matAV,zBa];done)|(simp[keepT,AV.underL,AV.under,MB.under,zAF,zAJ,zAK,zAE,zAG,zAH,zAI,-List.map_take,-List.map_replicate,-List.map_set,T23i,hj,hpl,zAb,matOf,matAV,zBa];omega)))
         ·-- an assertion
          have h61:=f61 nn t e.w.at_ hww.1.at_ (by omega)
          cases hh2:assertI nn (befS t e.w.at_) t[e.w.at_]? with
          | false=>
            rw[hh2]at h61
            have hh:(progOf g t).holds nn e.w.at_=false:=hh2
            have hs:stepW (progOf g t) e.w=.ways []:=by simp[stepW,hpi,hh]
            rw[hs]at hr
            simp only[nextI,List.map_nil,List.nil_append]at hr
            simp +contextual (disch:=omega) only[Tryz.f32,dd32,go_sem,simprocAttr,mu32,↓zAD,↓zAC,↓zAB,↓zAA,hi,h59,Nat.sub_zero,h61]
            repeat' (first|intro _|apply And.intro|(unfold dOk;kernel_rfl)|exact St.beq_refl _|(show altO _ _ _ _=true;kernel_rfl)|(show (_ || _)=true;kernel_rfl)|(show (_ && _)=true;kernel_rfl))
            refine⟨⟨todo,junk,out,fuel⟩,⟨hr,hrest,by simp only[];omega,by simp only[];omega,hj⟩,by simp only[];omega,?_⟩
            exact(by first|rfl|(refine zAX (n:=4) (m:=⟨some [16,15,5,4,3,2,1],some 4,[]⟩) rfl rfl ?_ ?_ ?_<;>first|rfl|(simp[keepT,AV.underL,AV.under,MB.under,zAF,zAJ,zAK,zAE,zAG,zAH,zAI,-List.map_take,-List.map_replicate,-List.map_set,T23,hj,hpl,zAb,matOf,matAV,zBa];done)|(simp[keepT,AV.underL,AV.under,MB.under,zAF,zAJ,zAK,zAE,zAG,zAH,zAI,-List.map_take,-List.map_replicate,-List.map_set,T23,hj,hpl,zAb,matOf,matAV,zBa];omega)))
          | true=>
            rw[hh2]at h61
            have hh:(progOf g t).holds nn e.w.at_=true:=hh2
            have hs:stepW (progOf g t) e.w=.ways [⟨e.w.pc+1,e.w.at_,e.w.regs⟩]:=by simp[stepW,hpi,hh]
            have hst:=hstep _ hs
            rw[hs]at hr
            simp only[nextI,List.map_nil,List.map_cons,if_true,List.cons_append,List.nil_append]at hr
            simp +contextual (disch:=omega) only[Tryz.f32,dd32,go_sem,simprocAttr,mu32,↓zAD,↓zAC,↓zAB,↓zAA,hi,h59,Nat.sub_zero,h61]
            repeat' (first|intro _|apply And.intro|(unfold dOk;kernel_rfl)|exact St.beq_refl _|(show altO _ _ _ _=true;kernel_rfl)|(show (_ || _)=true;kernel_rfl)|(show (_ && _)=true;kernel_rfl))
            refine⟨⟨⟨⟨e.w.pc+1,e.w.at_,e.w.regs⟩,i',d'⟩,todo,junk,out,fuel⟩,⟨hr,hm,⟨hst _ (List.mem_cons_self ..),by simp only[];omega,by simp only[];omega⟩,hrest,by simp only[];omega,by simp only[];omega,hj,by simp only[];omega⟩,Nat.lt_succ_self _,?_⟩
            exact(by first|rfl|(refine zAX (n:=5) (m:=⟨some [17,16,15,5,4,3,2,1],some 5,[]⟩) rfl rfl ?_ ?_ ?_<;>first|rfl|(simp[keepT,AV.underL,AV.under,MB.under,zAF,zAJ,zAK,zAE,zAG,zAH,zAI,-List.map_take,-List.map_replicate,-List.map_set,T23i,hj,hpl,zAb,matOf,matAV,zBa];done)|(simp[keepT,AV.underL,AV.under,MB.under,zAF,zAJ,zAK,zAE,zAG,zAH,zAI,-List.map_take,-List.map_replicate,-List.map_set,T23i,hj,hpl,zAb,matOf,matAV,zBa];omega)))
  ·intro w hw
   rw[List.mem_singleton.1 hw]
   exact⟨⟨by show 0 < _;omega,by show p0≤_;omega,hlm⟩,Nat.zero_le _,Nat.zero_le _⟩
  ·simp;omega
  ·simp;omega
  ·exact(by first|rfl|(refine zAX (n:=4) (m:=⟨some [16,15,5,4,3,2,1],some 4,[]⟩) rfl rfl ?_ ?_ ?_<;>first|rfl|(simp[keepT,AV.underL,AV.under,MB.under,zAF,zAJ,zAK,zAE,zAG,zAH,zAI,-List.map_take,-List.map_replicate,-List.map_set,T23,stA];done)|(simp[keepT,AV.underL,AV.under,MB.under,zAF,zAJ,zAK,zAE,zAG,zAH,zAI,-List.map_take,-List.map_replicate,-List.map_set,T23,stA];omega)))
end
section
open Go.Proofs Go.RowKit Go.IntWalk
set_option maxRecDepth 100000
set_option maxHeartbeats 8000000
theorem zGZ (ins:List Int):∀ l:List Re,compL ins l=true↔∀ k∈l,compG ins k=true
 | []=>by simp[compL]
 | k::ks=>by simp[compL,zGZ ins ks]
theorem zDO {ins:List Int} {l:List Re} {k:Re} (h:k∈l) (hk:compG ins k=false):compL ins l=false:=by
 rw[Bool.eq_false_iff]
 intro hw
 rw[zGZ]at hw
 rw[hw k h]at hk;cases hk
theorem zDg {ins:List Int} {l:List Re} (h:∀(i:Nat) (k:Re),i < l.length→l[i]?=some k→compG ins k=true):compL ins l=true:=by
 rw[zGZ]
 intro k hk
 obtain⟨i,hi,e⟩:=List.getElem_of_mem hk
 exact h i k hi (by rw[← e];exact List.getElem?_eq_getElem hi)
theorem f115 (l:List Int) (x:Int) (hl:l.length≤10000000) (H:List MB):call Tryz.prog pol1 41 [.sl false (l.map I),I x] H=some (.bool (decide (x∈l)),H):=by
 refine zAS Tryz.func41 rfl rfl rfl rfl rfl rfl (fun _=>rfl) (by simp[AV.plain,AV.plainL,zAE]) rfl ?_ H
 simp +contextual (disch:=omega) only[Tryz.f41,dd41,go_sem,simprocAttr,mu41,↓zAD,↓zAC,↓zAB,↓zAA]
 refine zAe (M:=(mskOf (pol1.mask 41) (pol1.gc 41) (pol1.acts 41) 0 2)) rfl l.length (fun i=>(⟨18,[(5,I i),(1,I x),(0,.sl false (l.map I))],[]⟩:St)) (fun i=>∀ k p,k < i→l[k]?=some p→p≠x) ?_ ?_ (fun k p h=>by omega) _ (by first|rfl|(simp[keepT,AV.underL,AV.under,MB.under,zAF,zAJ,zAK,zAE,zAG,zAH,zAI,-List.map_take,-List.map_replicate,-List.map_set];done))
 ·intro i hi hg
  obtain⟨p,hp⟩:∃ p,l[i]?=some p:=⟨_,List.getElem?_eq_getElem hi⟩
  by_cases hpx:p=x
  ·subst hpx
   rw[decide_eq_true (List.mem_of_getElem? hp)]
   simp +contextual (disch:=omega) only[Tryz.f41,dd41,go_sem,simprocAttr,mu41,↓zAD,↓zAC,↓zAB,↓zAA,hp]
   exact fzEq rfl rfl
  ·simp +contextual (disch:=omega) only[Tryz.f41,dd41,go_sem,simprocAttr,mu41,↓zAD,↓zAC,↓zAB,↓zAA,hp]
   refine⟨fun k q hk hq=>?_,(by first|rfl|(simp[keepT,AV.underL,AV.under,MB.under,zAF,zAJ,zAK,zAE,zAG,zAH,zAI,-List.map_take,-List.map_replicate,-List.map_set];done))⟩
   rcases Nat.lt_or_ge k i with h|h
   ·exact hg k q h hq
   ·obtain rfl:k=i:=by omega
    rw[hp]at hq;obtain rfl:=Option.some.inj hq
    exact hpx
 ·intro hg
  have:¬ x∈l:=fun hm=>by
   obtain⟨i,hi,e⟩:=List.getElem_of_mem hm
   exact hg i x hi (by rw[← e];exact List.getElem?_eq_getElem hi) rfl
  rw[decide_eq_false this]
  simp +contextual (disch:=omega) only[Tryz.f41,dd41,go_sem,simprocAttr,mu41,↓zAD,↓zAC,↓zAB,↓zAA]
  exact fzEq rfl rfl
theorem f134 (l:List Int) (x:Int) (hl:l.length≤10000000):∃ r:Int,(0≤r↔x∈l)∧∀ H,call Tryz.prog pol1 115 [.sl false (l.map I),I x] H=some (I r,H):=by
 have h:∃ r,(∃ i:Int,(0≤i↔x∈l)∧r=I i)∧∀ H,call Tryz.prog pol1 115 [.sl false (l.map I),I x] H=some (r,H):=by
  refine zCh Tryz.func115 rfl rfl rfl rfl rfl rfl (fun _=>rfl) (by simp[AV.plain,AV.plainL,zAE]) ?_ ?_
  ·rintro _ ⟨i,_,rfl⟩;rfl
  simp +contextual (disch:=omega) only[Tryz.f115,dd115,go_sem,simprocAttr,mu115,↓zAD,↓zAC,↓zAB,↓zAA]
  refine zAe (M:=(mskOf (pol1.mask 115) (pol1.gc 115) (pol1.acts 115) 0 2)) rfl l.length (fun i=>(⟨19,[(8,I i),(7,I l.length),(1,I x),(0,.sl false (l.map I))],[]⟩:St)) (fun i=>∀ k p,k < i→l[k]?=some p→p≠x) ?_ ?_ (fun k p h=>by omega) _ (by first|rfl|(simp[keepT,AV.underL,AV.under,MB.under,zAF,zAJ,zAK,zAE,zAG,zAH,zAI,-List.map_take,-List.map_replicate,-List.map_set];done))
  ·intro i hi hg
   obtain⟨p,hp⟩:∃ p,l[i]?=some p:=⟨_,List.getElem?_eq_getElem hi⟩
   by_cases hpx:p=x
   ·subst hpx
    simp +contextual (disch:=omega) only[Tryz.f115,dd115,go_sem,simprocAttr,mu115,↓zAD,↓zAC,↓zAB,↓zAA,hp]
    exact⟨_,⟨i,⟨fun _=>List.mem_of_getElem? hp,fun _=>by omega⟩,rfl⟩,_,rfl⟩
   ·simp +contextual (disch:=omega) only[Tryz.f115,dd115,go_sem,simprocAttr,mu115,↓zAD,↓zAC,↓zAB,↓zAA,hp]
    refine⟨fun k q hk hq=>?_,(by first|rfl|(simp[keepT,AV.underL,AV.under,MB.under,zAF,zAJ,zAK,zAE,zAG,zAH,zAI,-List.map_take,-List.map_replicate,-List.map_set];done))⟩
    rcases Nat.lt_or_ge k i with h|h
    ·exact hg k q h hq
    ·obtain rfl:k=i:=by omega
     rw[hp]at hq;obtain rfl:=Option.some.inj hq
     exact hpx
  ·intro hg
   have:¬ x∈l:=fun hm=>by
    obtain⟨i,hi,e⟩:=List.getElem_of_mem hm
    exact hg i x hi (by rw[← e];exact List.getElem?_eq_getElem hi) rfl
   simp +contextual (disch:=omega) only[Tryz.f115,dd115,go_sem,simprocAttr,mu115,↓zAD,↓zAC,↓zAB,↓zAA]
   exact⟨_,⟨-1,⟨fun h=>by omega,fun h=>absurd h this⟩,rfl⟩,_,rfl⟩
 obtain⟨_,⟨i,h1,rfl⟩,h2⟩:=h
 exact⟨i,h1,h2⟩
theorem f106z (l:List Int) (x:Int) (hl:l.length≤10000000) (H:List MB):call Tryz.prog pol1 88 [.sl false (l.map I),I x] H=some (.bool (decide (x∈l)),H):=by
 refine zAS Tryz.func88 rfl rfl rfl rfl rfl rfl (fun _=>rfl) (by simp[AV.plain,AV.plainL,zAE]) rfl ?_ H
 obtain⟨r,h1,h2⟩:=f134 l x hl
 simp +contextual (disch:=omega) only[Tryz.f88,dd88,go_sem,simprocAttr,mu88,↓zAD,↓zAC,↓zAB,↓zAA,h2]
 refine fzEq rfl (congrArg AV.bool ?_)
 rw[decide_eq_decide]
 exact h1
def zi (m:Nat):Nat→Nat
 | 0=>0
 | _+1=>m
theorem zi_max (m i:Nat):max (zi m i) m=m:=by cases i<;>simp[zi]
theorem f53 (caps top:Int):∀(N:Nat) (r:Re) (ins:List Int),r.wt≤N→r.wt≤1000000→ins.length+r.wt≤2000000→wholeG caps top r=true→∀ H,call Tryz.prog pol1 61 [reAV r,.sl false (ins.map I)] H=some (.bool (compG ins r),H)
 | 0,r,_,h,_,_,_=>by have:=r.wt_pos;omega
 | N+1,.mk op set kids mn mx md n neg,ins,h,hN,hI,hw=>by
   intro H
   have hkl:=Re.wtL_len kids
   have hwt:1+set.length+Re.wtL kids=(Re.mk op set kids mn mx md n neg).wt:=by simp[Re.wt]
   obtain⟨hwk,hkd,hrp,_,ho1,ho2⟩:=zAy hw
   have ih:=fun k (hk:k∈kids) (ins':List Int) (hi:ins'.length≤ins.length+1)=>f53 caps top N k ins' (by have:=Re.wtL_mem hk;omega) (by have:=Re.wtL_mem hk;omega) (by have:=Re.wtL_mem hk;omega) (hwk k hk)
   have h20:=fun k (hk:k∈kids)=>f20 k.wt k (Nat.le_refl _) (by have:=Re.wtL_mem hk;omega)
   have h115:=f115 ins n (by omega)
   rw[show reAV (.mk op set kids mn mx md n neg)=.agg (nodeL op set kids mn mx md n neg) from congrArg AV.agg zCm]
   refine zAS Tryz.func61 rfl rfl rfl rfl rfl rfl (fun _=>rfl) (by simp[AV.plain,AV.plainL,zAG,zAL,zAE]) rfl ?_ H
   rw[compG]
   by_cases h4:op=4∧(md=2∨nullHd kids=true)
   ·rw[if_pos h4]
    obtain⟨rfl,h4⟩:=h4
    by_cases hmd:md=2
    ·simp +contextual (disch:=omega) only[Tryz.f61,dd61,go_sem,simprocAttr,mu61,↓zAD,↓zAC,↓zAB,↓zAA]
     exact fzEq rfl rfl
    ·have hnl:nullHd kids=true:=by rcases h4 with h|h;exact absurd h hmd;exact h
     cases kids with
     | nil=>simp[nullHd]at hnl
     | cons k ks=>
       have h20k:=h20 k (List.mem_cons_self ..)
       rw[show nullG k=true from hnl]at h20k
       have hl8:=zAM k
       have ht8:=zAU k
       simp only[List.length_cons]at hkl
       simp +contextual (disch:=omega) only[Tryz.f61,dd61,go_sem,simprocAttr,mu61,↓zAD,↓zAC,↓zAB,↓zAA,h20k,hl8,ht8]
       exact fzEq rfl rfl
   rw[if_neg h4]
   by_cases h5:op=5
   ·subst h5
    rw[if_pos rfl]
    by_cases hm:n∈ins
    ·rw[if_pos hm]
     rw[decide_eq_true hm]at h115
     simp +contextual (disch:=omega) only[Tryz.f61,dd61,go_sem,simprocAttr,mu61,↓zAD,↓zAC,↓zAB,↓zAA,h115]
     exact fzEq rfl rfl
    ·rw[if_neg hm]
     rw[decide_eq_false hm]at h115
     have hcall:∀(b0:MB) (z:Nat) (k:Re),k∈kids→call Tryz.prog pol1 61 [reAV k,.ms 1 1 (ins.length+1) 0 (ins.length+1)] [b0,.row 1 ((ins++[n]).map I) z]=some (.bool (compG (ins++[n]) k),[b0,.row 1 ((ins++[n]).map I) (max z (ins.length+1))]):=fun b0 z k hk=>by
      have h1:frzArgs pol1 61 0 [reAV k,.ms 1 1 (ins.length+1) 0 (ins.length+1)] [b0,.row 1 ((ins++[n]).map I) z]=some ([reAV k,.sl false ((ins++[n]).map I)],[b0,.row 1 ((ins++[n]).map I) (max z (ins.length+1))]):=by
       have h2:fz (.ms 1 1 (ins.length+1) 0 (ins.length+1)) [b0,.row 1 ((ins++[n]).map I) z]=some (.sl false ((ins++[n]).map I),[b0,.row 1 ((ins++[n]).map I) (max z (ins.length+1))]):=
        zGL (k:=1) (z:=z) rfl (by simp) (zAE _)
       have hby:∀ i,pol1.byref 61 i=false:=fun i=>rfl
       simp only[frzArgs,hby,Bool.false_eq_true,if_false,zAh _ (show AV.plain (reAV k)=true from zAc k),h2]
      rw[call_frz rfl h1 (by simp[AV.plainL,AV.plain,zAc,zAE,-List.map_append])]
      exact ih k hk (ins++[n]) (by simp) _
     have hmm:∀ z,z=0∨z=ins.length+1→max z (ins.length+1)=ins.length+1:=fun z hz=>by omega
     have hinl:ins.length≤2000000:=by omega
     cases ins with
     | nil=>
       simp only[List.map_nil,List.map_cons,List.nil_append,List.length_nil,Nat.zero_add]at h115 hcall
       simp +contextual (disch:=omega) only[Tryz.f61,dd61,go_sem,simprocAttr,mu61,↓zAD,↓zAC,↓zAB,↓zAA,h115]
       repeat' (first|intro _|apply And.intro|(unfold dOk;kernel_rfl)|exact St.beq_refl _|(show altO _ _ _ _=true;kernel_rfl)|(show (_ || _)=true;kernel_rfl)|(show (_ && _)=true;kernel_rfl))
       refine zAe (M:=(mskOf (pol1.mask 61) (pol1.gc 61) (pol1.acts 61) 0 12)) rfl kids.length (fun i=>(⟨61,[(7,I i),(2,.rf 0 1 0 0),(1,.ms 1 1 (1) 0 (1))],[.row 8 [.agg (nodeL 5 set kids mn mx md n neg)] 0,.row 1 ([I n]) (zi (1) i)]⟩:St)) (fun i=>∀ j k,j < i→kids[j]?=some k→compG ([n]) k=true) ?_ ?_ (fun j k h=>by omega) _ (by first|rfl|(refine zAX (n:=2) (m:=⟨some [7,2,1],some 2,[]⟩) rfl rfl ?_ ?_ ?_<;>first|rfl|(simp[keepT,AV.underL,AV.under,MB.under,zAF,zAJ,zAK,zAE,zAG,zAH,zAI,-List.map_take,-List.map_replicate,-List.map_set,zAL,zi];done)|(simp[keepT,AV.underL,AV.under,MB.under,zAF,zAJ,zAK,zAE,zAG,zAH,zAI,-List.map_take,-List.map_replicate,-List.map_set,zAL,zi];omega)))
       ·intro i hi hg
        obtain⟨k,hk⟩:∃ k,kids[i]?=some k:=⟨_,List.getElem?_eq_getElem hi⟩
        have ihk:=fun b0 z=>hcall b0 z k (List.mem_of_getElem? hk)
        have hl8:=zAM k
        have ht8:=zAU k
        have hz:=zi_max (1) i
        cases hn:compG ([n]) k with
        | false=>
          rw[hn]at ihk
          rw[show compL [n] kids=false from zDO (List.mem_of_getElem? hk) hn]
          simp +contextual (disch:=omega) only[Tryz.f61,dd61,go_sem,simprocAttr,mu61,↓zAD,↓zAC,↓zAB,↓zAA,hk,ihk,hl8,ht8]
          exact fzEq rfl rfl
        | true=>
          rw[hn]at ihk
          simp +contextual (disch:=omega) only[Tryz.f61,dd61,go_sem,simprocAttr,mu61,↓zAD,↓zAC,↓zAB,↓zAA,hk,ihk,hl8,ht8,hz]
          refine⟨fun j q hj hq=>?_,(by first|rfl|(refine zAX (n:=2) (m:=⟨some [7,2,1],some 2,[]⟩) rfl rfl ?_ ?_ ?_<;>first|rfl|(simp[keepT,AV.underL,AV.under,MB.under,zAF,zAJ,zAK,zAE,zAG,zAH,zAI,-List.map_take,-List.map_replicate,-List.map_set,zAL,zAE];done)|(simp[keepT,AV.underL,AV.under,MB.under,zAF,zAJ,zAK,zAE,zAG,zAH,zAI,-List.map_take,-List.map_replicate,-List.map_set,zAL,zAE];omega)))⟩
          rcases Nat.lt_or_ge j i with h|h
          ·exact hg j q h hq
          ·obtain rfl:j=i:=by omega
           rw[hk]at hq;obtain rfl:=Option.some.inj hq
           exact hn
       ·intro hg
        rw[show compL [n] kids=true from zDg fun j k hj hk=>hg j k hj hk]
        simp +contextual (disch:=omega) only[Tryz.f61,dd61,go_sem,simprocAttr,mu61,↓zAD,↓zAC,↓zAB,↓zAA]
        exact fzEq rfl rfl
     | cons x xs=>
       simp only[List.map_nil,List.map_cons,List.map_append,List.cons_append,List.length_cons]at h115 hcall hinl
       have hto:List.take (xs.length+1) (I x::List.map I xs)=I x::List.map I xs:=by rw[List.take_succ_cons];rw[zCt rfl]
       have hsn:x::(xs++[n])=(x::xs)++[n]:=rfl
       have hal:=all_int1 (x::xs)
       simp +contextual (disch:=omega) only[Tryz.f61,dd61,go_sem,simprocAttr,mu61,↓zAD,↓zAC,↓zAB,↓zAA,h115,hto]
       repeat' (first|intro _|apply And.intro|(unfold dOk;kernel_rfl)|exact St.beq_refl _|(show altO _ _ _ _=true;kernel_rfl)|(show (_ || _)=true;kernel_rfl)|(show (_ && _)=true;kernel_rfl))
       ·exact all_int1 xs
       refine zAe (M:=(mskOf (pol1.mask 61) (pol1.gc 61) (pol1.acts 61) 0 12)) rfl kids.length (fun i=>(⟨61,[(7,I i),(2,.rf 0 1 0 0),(1,.ms 1 1 (xs.length+1+1) 0 (xs.length+1+1))],[.row 8 [.agg (nodeL 5 set kids mn mx md n neg)] 0,.row 1 (I x::(List.map I xs++[I n])) (zi (xs.length+1+1) i)]⟩:St)) (fun i=>∀ j k,j < i→kids[j]?=some k→compG (x::(xs++[n])) k=true) ?_ ?_ (fun j k h=>by omega) _ (by first|rfl|(refine zAX (n:=2) (m:=⟨some [7,2,1],some 2,[]⟩) rfl rfl ?_ ?_ ?_<;>first|rfl|(simp[keepT,AV.underL,AV.under,MB.under,zAF,zAJ,zAK,zAE,zAG,zAH,zAI,-List.map_take,-List.map_replicate,-List.map_set,zAL,zi];done)|(simp[keepT,AV.underL,AV.under,MB.under,zAF,zAJ,zAK,zAE,zAG,zAH,zAI,-List.map_take,-List.map_replicate,-List.map_set,zAL,zi];omega)))
       ·intro i hi hg
        obtain⟨k,hk⟩:∃ k,kids[i]?=some k:=⟨_,List.getElem?_eq_getElem hi⟩
        have ihk:=fun b0 z=>hcall b0 z k (List.mem_of_getElem? hk)
        have hl8:=zAM k
        have ht8:=zAU k
        have hz:=zi_max (xs.length+1+1) i
        cases hn:compG (x::(xs++[n])) k with
        | false=>
          rw[hn]at ihk
          rw[show compL (x::(xs++[n])) kids=false from zDO (List.mem_of_getElem? hk) hn]
          simp +contextual (disch:=omega) only[Tryz.f61,dd61,go_sem,simprocAttr,mu61,↓zAD,↓zAC,↓zAB,↓zAA,hk,ihk,hl8,ht8]
          exact fzEq rfl rfl
        | true=>
          rw[hn]at ihk
          simp +contextual (disch:=omega) only[Tryz.f61,dd61,go_sem,simprocAttr,mu61,↓zAD,↓zAC,↓zAB,↓zAA,hk,ihk,hl8,ht8,hz]
          refine⟨fun j q hj hq=>?_,(by first|rfl|(refine zAX (n:=2) (m:=⟨some [7,2,1],some 2,[]⟩) rfl rfl ?_ ?_ ?_<;>first|rfl|(simp[keepT,AV.underL,AV.under,MB.under,zAF,zAJ,zAK,zAE,zAG,zAH,zAI,-List.map_take,-List.map_replicate,-List.map_set,zAL,zAE];done)|(simp[keepT,AV.underL,AV.under,MB.under,zAF,zAJ,zAK,zAE,zAG,zAH,zAI,-List.map_take,-List.map_replicate,-List.map_set,zAL,zAE];omega)))⟩
          rcases Nat.lt_or_ge j i with h|h
          ·exact hg j q h hq
          ·obtain rfl:j=i:=by omega
           rw[hk]at hq;obtain rfl:=Option.some.inj hq
           exact hn
       ·intro hg
        rw[show compL (x::(xs++[n])) kids=true from zDg fun j k hj hk=>hg j k hj hk]
        simp +contextual (disch:=omega) only[Tryz.f61,dd61,go_sem,simprocAttr,mu61,↓zAD,↓zAC,↓zAB,↓zAA]
        exact fzEq rfl rfl
   rw[if_neg h5]
   by_cases h6:5 < op∧op≠11
   ·rw[if_pos h6]
    have hnl:op=4→¬ nullHd kids=true:=fun h=>by omega
    simp +contextual (disch:=omega) only[Tryz.f61,dd61,go_sem,simprocAttr,mu61,↓zAD,↓zAC,↓zAB,↓zAA]
    exact fzEq rfl rfl
   rw[if_neg h6]
   have hfrz:∀ k (H:List MB),k∈kids→call Tryz.prog pol1 61 [reAV k,.sl false (ins.map I)] H=some (.bool (compG ins k),H):=fun k H hk=>ih k hk ins (by omega) H
   have hmain:∀ k',kids.head?=some k'→op=4→∀ H,call Tryz.prog pol1 96 [reAV k'] H=some (.bool false,H):=fun k' hk' hop4=>by
    cases kids with
    | nil=>cases hk'
    | cons k ks=>
      have e:k=k':=by simpa using hk'
      subst e
      have h1:=h20 k (List.mem_cons_self ..)
      have:nullG k=false:=by
       cases hn:nullG k with
       | false=>rfl
       | true=>exact absurd ⟨hop4,.inr hn⟩ h4
      rw[this]at h1;exact h1
   have hloop:∀ r,r=compL ins kids→op≠5→True:=fun _ _ _=>trivial
   have hone:op=4→kids.length=1:=fun h=>by subst h;simpa [kidsG] using hkd
   by_cases ho4:op=4
   ·subst ho4
    have hmd:¬ md=2:=fun h=>h4 ⟨rfl,.inl h⟩
    have hk1:=hone rfl
    match kids,hk1 with
    | [k],_=>
      have h20k:=hmain k rfl rfl
      have hl8:=zAM k
      have ht8:=zAU k
      have hf:=fun H=>hfrz k H (List.mem_cons_self ..)
      generalize hks:([k]:List Re)=kids at *
      have hkk:kids.map reAV=[reAV k]:=by rw[← hks];rfl
      have hget:(kids.map reAV)[0]?=some (reAV k):=by rw[hkk];rfl
      have hget':kids[0]?=some k:=by rw[← hks];rfl
      have hlen1:kids.length=1:=by rw[← hks];rfl
      clear hmain hloop hone
      simp +contextual (disch:=omega) only[Tryz.f61,dd61,go_sem,simprocAttr,mu61,↓zAD,↓zAC,↓zAB,↓zAA,h20k,hl8,ht8,hget']
      refine zAe (M:=(mskOf (pol1.mask 61) (pol1.gc 61) (pol1.acts 61) 0 12)) rfl (kids).length (fun i=>(⟨61,[(7,I i),(2,.rf 0 1 0 0),(1,.sl false (ins.map I))],[.row 8 [.agg (nodeL _ set (kids) mn mx md n neg)] 0]⟩:St)) (fun i=>∀ j k,j < i→(kids)[j]?=some k→compG ins k=true) ?_ ?_ (fun j k h=>by omega) _ (by first|rfl|(refine zAX (n:=2) (m:=⟨some [7,2,1],some 2,[]⟩) rfl rfl ?_ ?_ ?_<;>first|rfl|(simp[keepT,AV.underL,AV.under,MB.under,zAF,zAJ,zAK,zAE,zAG,zAH,zAI,-List.map_take,-List.map_replicate,-List.map_set,zAL,zAc];done)|(simp[keepT,AV.underL,AV.under,MB.under,zAF,zAJ,zAK,zAE,zAG,zAH,zAI,-List.map_take,-List.map_replicate,-List.map_set,zAL,zAc];omega)))
      ·intro i hi hg
       obtain⟨k,hk⟩:∃ k,(kids)[i]?=some k:=⟨_,List.getElem?_eq_getElem hi⟩
       have ihk:=fun H=>hfrz k H (List.mem_of_getElem? hk)
       have hl8:=zAM k
       have ht8:=zAU k
       cases hn:compG ins k with
       | false=>
         rw[hn]at ihk
         rw[show compL ins (kids)=false from zDO (List.mem_of_getElem? hk) hn]
         simp +contextual (disch:=omega) only[Tryz.f61,dd61,go_sem,simprocAttr,mu61,↓zAD,↓zAC,↓zAB,↓zAA,hk,ihk,hl8,ht8]
         exact fzEq rfl rfl
       | true=>
         rw[hn]at ihk
         simp +contextual (disch:=omega) only[Tryz.f61,dd61,go_sem,simprocAttr,mu61,↓zAD,↓zAC,↓zAB,↓zAA,hk,ihk,hl8,ht8]
         refine⟨fun j q hj hq=>?_,(by first|rfl|(refine zAX (n:=2) (m:=⟨some [7,2,1],some 2,[]⟩) rfl rfl ?_ ?_ ?_<;>first|rfl|(simp[keepT,AV.underL,AV.under,MB.under,zAF,zAJ,zAK,zAE,zAG,zAH,zAI,-List.map_take,-List.map_replicate,-List.map_set,zAL,zAc];done)|(simp[keepT,AV.underL,AV.under,MB.under,zAF,zAJ,zAK,zAE,zAG,zAH,zAI,-List.map_take,-List.map_replicate,-List.map_set,zAL,zAc];omega)))⟩
         rcases Nat.lt_or_ge j i with h|h
         ·exact hg j q h hq
         ·obtain rfl:j=i:=by omega
          rw[hk]at hq;obtain rfl:=Option.some.inj hq
          exact hn
      ·intro hg
       rw[show compL ins (kids)=true from zDg fun j k hj hk=>hg j k hj hk]
       simp +contextual (disch:=omega) only[Tryz.f61,dd61,go_sem,simprocAttr,mu61,↓zAD,↓zAC,↓zAB,↓zAA]
       exact fzEq rfl rfl
   ·have hop:op=0∨op=1∨op=2∨op=3∨op=11:=by omega
    clear hmain hloop hone h4
    rcases hop with rfl|rfl|rfl|rfl|rfl
    all_goals (
     simp +contextual (disch:=omega) only[Tryz.f61,dd61,go_sem,simprocAttr,mu61,↓zAD,↓zAC,↓zAB,↓zAA]
     refine zAe (M:=(mskOf (pol1.mask 61) (pol1.gc 61) (pol1.acts 61) 0 12)) rfl (kids).length (fun i=>(⟨61,[(7,I i),(2,.rf 0 1 0 0),(1,.sl false (ins.map I))],[.row 8 [.agg (nodeL _ set (kids) mn mx md n neg)] 0]⟩:St)) (fun i=>∀ j k,j < i→(kids)[j]?=some k→compG ins k=true) ?_ ?_ (fun j k h=>by omega) _ (by first|rfl|(refine zAX (n:=2) (m:=⟨some [7,2,1],some 2,[]⟩) rfl rfl ?_ ?_ ?_<;>first|rfl|(simp[keepT,AV.underL,AV.under,MB.under,zAF,zAJ,zAK,zAE,zAG,zAH,zAI,-List.map_take,-List.map_replicate,-List.map_set,zAL,zAc];done)|(simp[keepT,AV.underL,AV.under,MB.under,zAF,zAJ,zAK,zAE,zAG,zAH,zAI,-List.map_take,-List.map_replicate,-List.map_set,zAL,zAc];omega)))
     ·intro i hi hg
      obtain⟨k,hk⟩:∃ k,(kids)[i]?=some k:=⟨_,List.getElem?_eq_getElem hi⟩
      have ihk:=fun H=>hfrz k H (List.mem_of_getElem? hk)
      have hl8:=zAM k
      have ht8:=zAU k
      cases hn:compG ins k with
      | false=>
        rw[hn]at ihk
        rw[show compL ins (kids)=false from zDO (List.mem_of_getElem? hk) hn]
        simp +contextual (disch:=omega) only[Tryz.f61,dd61,go_sem,simprocAttr,mu61,↓zAD,↓zAC,↓zAB,↓zAA,hk,ihk,hl8,ht8]
        exact fzEq rfl rfl
      | true=>
        rw[hn]at ihk
        simp +contextual (disch:=omega) only[Tryz.f61,dd61,go_sem,simprocAttr,mu61,↓zAD,↓zAC,↓zAB,↓zAA,hk,ihk,hl8,ht8]
        refine⟨fun j q hj hq=>?_,(by first|rfl|(refine zAX (n:=2) (m:=⟨some [7,2,1],some 2,[]⟩) rfl rfl ?_ ?_ ?_<;>first|rfl|(simp[keepT,AV.underL,AV.under,MB.under,zAF,zAJ,zAK,zAE,zAG,zAH,zAI,-List.map_take,-List.map_replicate,-List.map_set,zAL,zAc];done)|(simp[keepT,AV.underL,AV.under,MB.under,zAF,zAJ,zAK,zAE,zAG,zAH,zAI,-List.map_take,-List.map_replicate,-List.map_set,zAL,zAc];omega)))⟩
        rcases Nat.lt_or_ge j i with h|h
        ·exact hg j q h hq
        ·obtain rfl:j=i:=by omega
         rw[hk]at hq;obtain rfl:=Option.some.inj hq
         exact hn
     ·intro hg
      rw[show compL ins (kids)=true from zDg fun j k hj hk=>hg j k hj hk]
      simp +contextual (disch:=omega) only[Tryz.f61,dd61,go_sem,simprocAttr,mu61,↓zAD,↓zAC,↓zAB,↓zAA]
      exact fzEq rfl rfl)
end
section
open Go.Proofs Go.RowKit Go.IntWalk
set_option maxRecDepth 100000
set_option maxHeartbeats 8000000
def insSplit (md next other:Int):Ins:=if md=1 then⟨2,other,next,0,[]⟩ else⟨2,next,other,0,[]⟩
mutual
def codeG:Re→Nat→List Ins
 | .mk op set kids mn mx md n neg,f=>
   if op=1 then [⟨1,0,0,0,set⟩] else if op=11 then [⟨5,0,0,n,[]⟩] else if op=2 then codeCat kids f else if op=3 then codeAlt kids f
   else if op=5 then⟨4,0,0,2 * n - 2,[]⟩::(codeHd kids (f+1)++[⟨4,0,0,2 * n - 1,[]⟩])
   else if op=4 then
    let L:=lenL kids
    let copies:=(List.range mn.toNat).flatMap fun i=>codeHd kids (f+i * L)
    let p:=f+mn.toNat * L
    if mx = -1 then copies++(insSplit md ((p+1:Nat):Int) ((p+L+2:Nat):Int)::(codeHd kids (p+1)++[⟨3,(p:Int),0,0,[]⟩]))
    else copies++(List.range (mx.toNat - mn.toNat)).flatMap fun j=>insSplit md ((p+j * (L+1)+1:Nat):Int) ((f+mx.toNat * L+(mx.toNat - mn.toNat):Nat):Int)::codeHd kids (p+j * (L+1)+1)
   else []
def codeCat:List Re→Nat→List Ins
 | [],_=>[]
 | k::ks,f=>codeG k f++codeCat ks (f+lenG k)
def codeAlt:List Re→Nat→List Ins
 | [],_=>[]
 | k::ks,f=>if ks.length=0 then codeG k f else
    ⟨2,((f+1:Nat):Int),((f+lenG k+2:Nat):Int),0,[]⟩::(codeG k (f+1)++(⟨3,((f+lenL (k::ks)+2 * ks.length:Nat):Int),0,0,[]⟩::codeAlt ks (f+lenG k+2)))
def codeHd:List Re→Nat→List Ins
 | [],_=>[]
 | k::_,f=>codeG k f
end
mutual
def codable:Re→Bool
 | .mk op set kids mn mx md n neg=>(decide (op≤5) || op == 11) && codableL kids
def codableL:List Re→Bool
 | []=>true
 | k::ks=>codable k && codableL ks
end
theorem zFZ:∀ l:List Re,codableL l=true↔∀ k∈l,codable k=true
 | []=>by simp[codableL]
 | k::ks=>by simp[codableL,zFZ ks]
mutual
theorem zER:∀(r:Re) (ins:List Int),compG ins r=true→codable r=true
 | .mk op set kids mn mx md n neg,ins,h=>by
   rw[compG]at h
   rw[codable,Bool.and_eq_true,Bool.or_eq_true,decide_eq_true_eq,beq_iff_eq]
   split at h
   ·cases h
   ·split at h
    ·split at h
     ·cases h
     ·exact⟨.inl (by omega),zEo kids _ h⟩
    ·split at h
     ·cases h
     ·exact⟨by omega,zEo kids _ h⟩
theorem zEo:∀(l:List Re) (ins:List Int),compL ins l=true→codableL l=true
 | [],_,_=>rfl
 | k::ks,ins,h=>by
   rw[compL,Bool.and_eq_true]at h
   rw[codableL,zER k ins h.1,zEo ks ins h.2];rfl
end
structure GoodC (caps top:Int) (r:Re):Prop where
 whole:wholeG caps top r=true
 cod:codable r=true
theorem GoodC.kids {caps top op:Int} {set:List (Int×Int)} {kids:List Re} {mn mx md n:Int} {neg:Bool} (h:GoodC caps top (.mk op set kids mn mx md n neg)):∀ k∈kids,GoodC caps top k:=by
 intro k hk
 have h2:=h.cod
 rw[codable,Bool.and_eq_true,zFZ]at h2
 exact⟨(zAy h.whole).1 k hk,h2.2 k hk⟩
theorem GoodC.op {caps top op:Int} {set:List (Int×Int)} {kids:List Re} {mn mx md n:Int} {neg:Bool} (h:GoodC caps top (.mk op set kids mn mx md n neg)):op=0∨op=1∨op=2∨op=3∨op=4∨op=5∨op=11:=by
 have h2:=h.cod
 rw[codable,Bool.and_eq_true,Bool.or_eq_true,decide_eq_true_eq,beq_iff_eq]at h2
 have h3:=(zAy h.whole).2.2.2.2
 omega
theorem zD7 {α:Type} (g:Nat→List α) (L:Nat):∀ m,(∀ i,i < m→(g i).length=L)→((List.range m).flatMap g).length=m * L
 | 0,_=>by simp
 | m+1,h=>by
   rw[List.range_succ,List.flatMap_append,List.length_append,zD7 g L m (fun i hi=>h i (by omega))]
   simp only[List.flatMap_cons,List.flatMap_nil,List.append_nil,h m (by omega),Nat.succ_mul]
mutual
theorem zBG (caps top:Int):∀(r:Re) (f:Nat),GoodC caps top r→(codeG r f).length=lenG r
 | .mk op set kids mn mx md n neg,f,hw=>by
   have hop:=hw.op
   obtain⟨_,hkd,hrp,_,ho1,ho2⟩:=zAy hw.whole
   have hwk:=hw.kids
   have hcat:=zEn caps top kids f hwk
   have halt:=zGb caps top kids f hwk
   have hhd:=fun f=>codeHd_len caps top kids f hwk
   rw[codeG,lenG]
   by_cases h1:op=1
   ·rw[if_pos h1,if_pos (.inl h1)];rfl
   rw[if_neg h1]
   by_cases h11:op=11
   ·rw[if_pos h11,if_pos (.inr h11)];rfl
   rw[if_neg h11,if_neg (show ¬ (op=1∨op=11) by omega)]
   by_cases h2:op=2
   ·rw[if_pos h2,if_neg (show ¬ op=3 by omega),if_neg (show ¬ op=5 by omega),if_neg (show ¬ op=4 by omega)];exact hcat
   rw[if_neg h2]
   by_cases h3:op=3
   ·subst h3
    rw[if_pos rfl,if_pos rfl]
    have:2≤kids.length:=by simpa [kidsG] using hkd
    exact halt (by omega)
   rw[if_neg h3,if_neg h3]
   have hone:op=4∨op=5→kids.length=1:=fun e=>by rcases e with rfl|rfl<;>simpa [kidsG] using hkd
   by_cases h5:op=5
   ·rw[if_pos h5,if_pos h5]
    simp[hhd _ (hone (.inr h5))]
   rw[if_neg h5,if_neg h5]
   by_cases h4:op=4
   ·rw[if_pos h4,if_pos h4]
    have hh:=fun f=>hhd f (hone (.inl h4))
    have hr:=hrp h4
    simp only[repG,Bool.and_eq_true,Bool.or_eq_true,decide_eq_true_eq,beq_iff_eq]at hr
    by_cases hm:mx = -1
    ·simp only[if_pos hm,List.length_append,List.length_cons,List.length_nil]
     rw[zD7 _ (lenL kids) _ (fun i _=>hh _),hh,Nat.succ_mul]
     omega
    ·simp only[if_neg hm,List.length_append]
     rw[zD7 _ (lenL kids) _ (fun i _=>hh _),zD7 _ (lenL kids+1) _ (fun i _=>by simp[hh])]
     obtain⟨e,he⟩:∃ e,mx.toNat=mn.toNat+e:=⟨mx.toNat - mn.toNat,by omega⟩
     rw[he,Nat.add_sub_cancel_left,Nat.add_mul,Nat.mul_add]
     omega
   rw[if_neg h4,if_neg h4]
   have hk0:kids=[]:=by
    have:op=0:=by omega
    subst this
    exact List.length_eq_zero_iff.1 (by simpa [kidsG] using hkd)
   rw[hk0];rfl
theorem zEn (caps top:Int):∀(l:List Re) (f:Nat),(∀ k∈l,GoodC caps top k)→(codeCat l f).length=lenL l
 | [],f,_=>rfl
 | k::ks,f,h=>by
   rw[codeCat,lenL,List.length_append,zBG caps top k f (h k (List.mem_cons_self ..)),zEn caps top ks _ (fun k hk=>h k (List.mem_cons_of_mem _ hk))]
theorem zGb (caps top:Int):∀(l:List Re) (f:Nat),(∀ k∈l,GoodC caps top k)→1≤l.length→(codeAlt l f).length=lenL l+2 * (l.length - 1)
 | [],f,_,h=>by simp at h
 | k::ks,f,h,_=>by
   have hk:=fun f=>zBG caps top k f (h k (List.mem_cons_self ..))
   rw[codeAlt]
   split
   ·rename_i h0
    have:ks=[]:=List.length_eq_zero_iff.1 h0
    subst this
    simp[hk,lenL]
   ·rename_i h0
    have:=zGb caps top ks (f+lenG k+2) (fun k hk=>h k (List.mem_cons_of_mem _ hk)) (by omega)
    simp only[List.length_cons,List.length_append,hk,this,lenL]
    omega
theorem codeHd_len (caps top:Int):∀(l:List Re) (f:Nat),(∀ k∈l,GoodC caps top k)→l.length=1→(codeHd l f).length=lenL l
 | [],f,_,h=>by simp at h
 | k::ks,f,h,hl=>by
   have:ks=[]:=List.length_eq_zero_iff.1 (by simpa using hl)
   subst this
   rw[codeHd,zBG caps top k f (h k (List.mem_cons_self ..))]
   simp[lenL]
end
end
end Go.Ev
