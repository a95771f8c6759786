/- Functions of the program, each with what it computes; no further conditions. -/
import Derived.Test.YtmfpcondongbjaaDoorR07
import Derived.Test.YtmfpcondongbjaaDoorR08
import Derived.Test.YtmfpcondongbjaaDoorR14
import Derived.Test.YtmfpcondongbjaaDoorR13
set_option linter.unusedVariables false
set_option linter.unusedSimpArgs false
namespace Go.Ev
attribute [local go_sem] evBuild splice List.length_append List.map_append tySzE List.head?_drop Nat.mul_one zAN zAQ zAL zAO zAP zAU
section
open Go.Proofs Go.RowKit Go.IntWalk
set_option maxRecDepth 100000
set_option maxHeartbeats 16000000
abbrev rsAV (r:RS):AV:=.agg [NV r.st,I r.be,I r.sy]
theorem zDn (l:List RS):AV.plainL (l.map rsAV)=true:=by
 induction l with
 | nil=>rfl
 | cons a l ih=>simp[AV.plainL,AV.plain,ih]
abbrev entX (xs:List RS):List (AV×AV):=xs.map fun r=>(NV r.st,AV.bool true)
theorem zIu (b:Nat):∀ xs:List RS,findMp (NV b) (entX xs)=if b∈xs.map (·.st) then some (.bool true) else none
 | []=>rfl
 | r::xs=>by
   have ih:=zIu b xs
   simp only[entX,List.map_cons,findMp]at ih ⊢
   by_cases e:r.st=b
   ·subst e
    rw[if_pos (by simp[AV.beq])]
    simp
   ·rw[if_neg (by simp[AV.beq,e];omega),ih]
    simp[Ne.symm e]
theorem zJl (b:Nat):∀ xs:List RS,b ∉ xs.map (·.st)→updMp (NV b) (.bool true) (entX xs)=entX xs++[(NV b,.bool true)]
 | [],_=>rfl
 | r::xs,h=>by
   have h1:r.st≠b:=fun e=>h (by simp[e])
   have ih:=zJl b xs (fun hm=>h (by simp at hm ⊢;exact .inr hm))
   simp only[entX,List.map_cons,updMp]at ih ⊢
   rw[if_neg (by simp[AV.beq];omega),ih]
   rfl
theorem zMW {H:List MB} {i n:Nat} {rs:List RS} {a b c:Int} {t:Bool} (hi:getRow H i=some (3,rs.map rsAV,0)) (hn:rs.length=n) (hr:n+1≤4000000000) :
  evAppend Tryd.prog H 73 73 (.ms i 3 n 0 n) (.sl t [.agg [I a,I b,I c]])=some (.ms i 3 (n+1) 0 (n+1),H.set i (.row 3 (rs.map rsAV++[.agg [I a,I b,I c]]) 0)):=by
 have hs:srcElems Tryd.prog H 88 (.sl t [.agg [I a,I b,I c]])=some [.agg [I a,I b,I c]]:=rfl
 rw[zAs (e:=88) (by kernel_rfl) (by kernel_rfl) (k:=3) (by kernel_rfl) (by_:=24) (by kernel_rfl) (ze:=.agg [I 0,I 0,I 0]) (by kernel_rfl) rfl (by omega) hs rfl hi (by rw[List.length_map];exact hn) (Nat.zero_le _) (zAU (by simpa using hr) (by omega))]
 rfl
theorem zDx (xs:List RS):[MB.row 3 (xs.map rsAV) 0,.mp (.int .i64) (entX xs)].all (MB.under 2)=true:=by
 have h1:=zAD 2 _ (zDn xs)
 have h2:MB.underE 2 (entX xs)=true:=by
  induction xs with
  | nil=>rfl
  | cons r xs ih=>
    have:=ih (zAD 2 _ (zDn xs))
    simp only[entX,List.map_cons,MB.underE,AV.under,this,Bool.and_self]
 simp[MB.under,h1,h2]
theorem zLj {id n len:Nat} {b:Bool} {H:List MB} {xs:List RS} (hr:getRow H id=some (3,xs.map rsAV,0)) (h1:xs.length=n) (h2:len≤n) :
  ∃ H',fz (.tup [.ms id 3 n 0 len,.bool b]) H=some (.tup [.sl false ((xs.take len).map rsAV),.bool b],H'):=by
 refine⟨mark H id len,?_⟩
 have h3:fzA (fzJ 6) (.ms id 3 n 0 len) H=some (.sl false ((xs.take len).map rsAV),mark H id len):=by
  have:=zKl (n:=5) (len:=len) hr (by rw[List.length_map];exact h1) h2 (by rw[← List.map_take];exact zDn _)
  rwa [← List.map_take]at this
 simp only[fz,zEC,fzL,h3]
 rfl
theorem XOk.take {ins:List Ins} {xs:List RS} (h:XOk ins xs) (n:Nat):XOk ins (xs.take n):=by
 refine⟨?_,fun r hr=>h.lt r (List.mem_of_mem_take hr),fun j r hr=>?_⟩
 ·rw[List.map_take];exact(List.take_sublist _ _).nodup h.nd
 ·rw[List.getElem?_take]at hr
  split at hr
  ·rename_i hj
   rcases h.bk j r hr with h1|⟨k,q,h1,h2,h3,h4⟩
   ·exact .inl h1
   ·exact .inr ⟨k,q,h1,h2,by rw[List.getElem?_take,if_pos (by omega)];exact h3,h4⟩
  ·cases hr
theorem XOk.addL {ins:List Ins} (hp:OkP ins) {xs:List RS} (h:XOk ins xs) {i n:Nat} {st:Nat} {q:RS} (hn:n∈(exS ins st).rd) (hi:xs[i]?=some q):XOk ins (Go.Ev.addL ins i q xs n):=by
 unfold Go.Ev.addL
 split
 ·exact h
 ·rename_i hne
  obtain⟨j',hj',h3,_⟩:=zFa hp hn
  exact h.add (hp.sym n j' hj' h3) hne hi
def Explored (ins:List Ins) (xs:List RS) (fk:Bool):Prop:=XOk ins xs∧∀ syms,LeastTo ins ins.length syms→srch ins syms (ins.length+1) 0 xs0=(xs,fk)
theorem f36 {ins:List Ins} (h:OkP ins):∃ r:AV,(∃ xs fk,Explored ins xs fk∧r=.tup [.sl false (xs.map rsAV),.bool fk])∧∀ H,call Tryd.prog pol1 25 [.sl false (ins.map insAV)] H=some (r,H):=by
 have hl:=h.len
 refine zCZ Tryd.func25 rfl rfl rfl rfl rfl rfl (fun _=>rfl) (by simp[AV.plain,AV.plainL,zAF,zAG,zAH,zAI]) ?_ ?_
 ·rintro r ⟨xs,fk,_,rfl⟩;simp[AV.plain,AV.plainL,zDn]
 simp +contextual (disch:=omega) only[Tryd.f25,dd25,go_sem,simprocAttr,evAppend,mu25,↓zAE,↓zAC,↓zAB,↓zAA]
 have hk4:∀(i n:Nat),AV.underL 2 [.int .i64 i,.mpr 1,.ms 0 3 n 0 n,.sl false (ins.map insAV)]=true:=fun i n=>by
  have:=zAD 2 _ (zAH ins)
  simp[AV.underL,AV.under,this]
 refine zHw (σ:=Nat×List RS) (M:=(mskOf (pol1.mask 25) (pol1.gc 25) (pol1.acts 25) 0 4)) (by rfl) (fun s=>(⟨67,[(6,NV s.1),(5,.mpr 1),(4,.ms 0 3 s.2.length 0 s.2.length),(0,.sl false (ins.map insAV))],[.row 3 (s.2.map rsAV) 0,.mp (.int .i64) (entX s.2)]⟩:St))
  (fun s=>XOk ins s.2∧s.1≤s.2.length∧∀ syms,LeastTo ins ins.length syms→srch ins syms (ins.length+1 - s.1) s.1 s.2=srch ins syms (ins.length+1) 0 xs0) (fun s=>ins.length+1 - s.1) (0,xs0) ?_ ⟨zKt h,Nat.zero_le _,fun _ _=>rfl⟩ _ ?_
 ·rintro⟨i,xs⟩ ⟨hx,hi,hr⟩
  simp only at hx hi hr ⊢
  have hxl:=hx.len
  obtain⟨f,hf⟩:∃ f,ins.length+1 - i=f+1:=⟨ins.length - i,by omega⟩
  rw[hf]at hr
  by_cases hil:i < xs.length
  ·obtain⟨q,hq⟩:∃ q,xs[i]?=some q:=⟨_,List.getElem?_eq_getElem hil⟩
   have hq':(xs.map rsAV)[i]?=some (rsAV q):=by simp[hq]
   have hqs:=hx.lt q (List.mem_of_getElem? hq)
   obtain⟨r75,⟨l,b,rfl,hb1,hb2⟩,h75⟩:=f75 h hqs
   have hlt:((i:Int) < ((xs.length:Nat):Int))=True:=eq_true (by omega)
   have hwi:IntKind.i64.wrap ((i:Int)+1)=((i+1:Nat):Int):=by rw[i64_in]<;>omega
   simp only[srch,hq]at hr
   cases b with
   | true=>
     simp only[if_pos (hb1 rfl)]at hr
     simp +contextual (disch:=omega) only[Tryd.f25,dd25,go_sem,simprocAttr,evAppend,mu25,↓zAE,↓zAC,↓zAB,↓zAA,hlt,hq',h75,hwi,zAR]
     exact⟨_,⟨_,_,⟨hx.take (i+1),fun syms hs=>(hr syms hs).symm⟩,rfl⟩,zLj rfl rfl (by omega)⟩
   | false=>
     obtain⟨hnf,hperm,hsrt⟩:=hb2 rfl
     simp only[if_neg hnf]at hr
     simp +contextual (disch:=omega) only[Tryd.f25,dd25,go_sem,simprocAttr,evAppend,mu25,↓zAE,↓zAC,↓zAB,↓zAA,hlt,hq',h75,hwi,zAR]
     have hll:=hperm.length_eq
     have hrl:=(zJ5 h hqs).1
     have hk7:∀(j i n m:Nat),AV.underL 2 [.int .i64 j,.int .i64 m,.sl false (l.map NV),.int .i64 i,.mpr 1,.ms 0 3 n 0 n,.sl false (ins.map insAV)]=true:=fun j i n m=>by
      have h1:=zAD 2 _ (zAH ins)
      have h2:=zAD 2 _ (zEt l)
      simp[AV.underL,AV.under,h1,h2]
     refine zHw (σ:=Nat×List RS) (M:=(mskOf (pol1.mask 25) (pol1.gc 25) (pol1.acts 25) 0 10)) (by rfl) (fun s=>(⟨67,[(38,NV s.1),(37,NV l.length),(36,.sl false (l.map NV)),(6,NV i),(5,.mpr 1),(4,.ms 0 3 s.2.length 0 s.2.length),(0,.sl false (ins.map insAV))],[.row 3 (s.2.map rsAV) 0,.mp (.int .i64) (entX s.2)]⟩:St))
      (fun s=>XOk ins s.2∧s.1≤l.length∧s.2[i]?=some q∧(l.drop s.1).foldl (addL ins i q) s.2=l.foldl (addL ins i q) xs) (fun s=>l.length - s.1) (0,xs) ?_ ⟨hx,Nat.zero_le _,hq,rfl⟩ _ ?_
     ·rintro⟨j,ys⟩ ⟨hy,hj,hyq,hfo⟩
      simp only at hy hj hyq hfo ⊢
      have hyl:=hy.len
      have hyi:=(List.getElem?_eq_some_iff.1 hyq).1
      by_cases hjl:j < l.length
      ·obtain⟨n,hn⟩:∃ n,l[j]?=some n:=⟨_,List.getElem?_eq_getElem hjl⟩
       have hn':(l.map NV)[j]?=some (NV n):=by simp[hn]
       have hnr:n∈(exS ins q.st).rd:=hperm.mem_iff.1 (List.mem_of_getElem? hn)
       obtain⟨x,hx1,hop,hpos⟩:=zFa h hnr
       have hx1':(ins.map insAV)[n]?=some (insAV x):=by simp[hx1]
       have hnl:=(List.getElem?_eq_some_iff.1 hx1).1
       obtain⟨p,m,hp⟩:∃ p m,x.set=p::m:=by cases hq:x.set with
        | nil=>rw[hq]at hpos;cases hpos
        | cons p m=>exact⟨p,m,rfl⟩
       have hk:keyI ins n=p.1:=by simp[keyI,hx1,hp]
       have hltj:((j:Int) < ((l.length:Nat):Int))=True:=eq_true (by omega)
       have hwn:IntKind.i64.wrap ((n:Int)+1)=((n+1:Nat):Int):=by rw[i64_in]<;>omega
       have hwj:IntKind.i64.wrap ((j:Int)+1)=((j+1:Nat):Int):=by rw[i64_in]<;>omega
       have hfi:=zIu (n+1) ys
       rw[List.drop_eq_getElem_cons hjl,show l[j]=n from(List.getElem?_eq_some_iff.1 hn).2,List.foldl_cons]at hfo
       have hyn:=hy.addL h (i:=i) hnr hyq
       by_cases hbm:n+1∈ys.map (·.st)
       ·rw[if_pos hbm]at hfi
        have e:addL ins i q ys n=ys:=by unfold addL;rw[if_pos hbm]
        rw[e]at hfo
        simp +contextual (disch:=omega) only[Tryd.f25,dd25,go_sem,simprocAttr,evAppend,mu25,↓zAE,↓zAC,↓zAB,↓zAA,hltj,hn',hwn,hwj,hfi,zAR]
        exact⟨(j+1,ys),⟨hy,hjl,hyq,hfo⟩,by simp only;omega,zAV rfl rfl (hk7 (j+1) i ys.length l.length) (zDx ys) rfl⟩
       ·rw[if_neg hbm]at hfi
        have e:addL ins i q ys n=ys++[⟨n+1,i,p.1,q.tx++[p.1]⟩]:=by unfold addL;rw[if_neg hbm,hk]
        rw[e]at hfo hyn
        have hup:=zJl (n+1) ys hbm
        have ap:=fun(t:Bool) (y:MB)=>zMW (H:=[MB.row 3 (ys.map rsAV) 0,y]) (i:=0) (n:=ys.length) (rs:=ys) (a:=((n+1:Nat):Int)) (b:=(i:Int)) (c:=p.1) (t:=t) rfl rfl (by omega)
        simp only[List.set]at ap
        simp +contextual (disch:=omega) only[Tryd.f25,dd25,go_sem,simprocAttr,mu25,↓zAE,↓zAC,↓zAB,↓zAA,hltj,hn',hwn,hwj,hfi,hup,hx1',hp,ap,zAR]
        have hun:=zDx (ys++[⟨n+1,i,p.1,q.tx++[p.1]⟩])
        simp only[entX,List.map_append,List.map_cons,List.map_nil]at hun
        refine⟨(j+1,ys++[⟨n+1,i,p.1,q.tx++[p.1]⟩]),⟨hyn,hjl,by rw[List.getElem?_append_left hyi];exact hyq,hfo⟩,by simp only;omega,?_⟩
        simp only[entX,List.map_append,List.map_cons,List.map_nil,List.length_append,List.length_cons,List.length_nil,Nat.zero_add]
        exact zAV rfl rfl (hk7 (j+1) i (ys.length+1) l.length) hun rfl
      ·have hltj:((j:Int) < ((l.length:Nat):Int))=False:=eq_false (by omega)
       rw[List.drop_of_length_le (by omega),List.foldl_nil]at hfo
       simp +contextual (disch:=omega) only[Tryd.f25,dd25,go_sem,simprocAttr,evAppend,mu25,↓zAE,↓zAC,↓zAB,↓zAA,hltj,hwi]
       refine⟨(i+1,ys),⟨hy,Nat.succ_le_of_lt hyi,fun syms hs=>?_⟩,by simp only;omega,zAV rfl rfl (hk4 (i+1) ys.length) (zDx ys) rfl⟩
       simp only
       rw[show ins.length+1 - (i+1)=f by omega,hfo,← zIV h i q hnf syms l xs hs.srt hsrt (hperm.nodup_iff.2 (zKf h hqs)) (fun n hn=>?_) (fun n hn hnl=>absurd (hperm.mem_iff.2 hn) hnl)]
       ·exact hr syms hs
       ·have hnr:=hperm.mem_iff.1 hn
        obtain⟨x,hx1,hop,hpos⟩:=zFa h hnr
        exact⟨hnr,hs.has n x (List.getElem?_eq_some_iff.1 hx1).1 hx1 hop hpos⟩
     ·exact zAV rfl rfl (hk7 0 i xs.length l.length) (zDx xs) rfl
  ·have hno:xs[i]?=none:=List.getElem?_eq_none (by omega)
   simp only[srch,hno]at hr
   have hlt:((i:Int) < ((xs.length:Nat):Int))=False:=eq_false (by omega)
   simp +contextual (disch:=omega) only[Tryd.f25,dd25,go_sem,simprocAttr,evAppend,mu25,↓zAE,↓zAC,↓zAB,↓zAA,hlt]
   refine⟨_,⟨_,_,⟨hx,fun syms hs=>(hr syms hs).symm⟩,rfl⟩,?_⟩
   have:=zLj (b:=false) (H:=[.row 3 (xs.map rsAV) 0,.mp (.int .i64) (entX xs)]) (id:=0) (xs:=xs) (n:=xs.length) (len:=xs.length) rfl rfl (Nat.le_refl _)
   rwa [List.take_length]at this
 ·exact zAV rfl rfl (hk4 0 1) (zDx xs0) rfl
end
end Go.Ev
set_option linter.unusedSectionVars false
namespace Go.Ev
theorem zFv {ins:List Ins}:∀ i,i≤ins.length→∃ l,LeastTo ins i l
 | 0,_=>⟨[],⟨List.Pairwise.nil,fun n x h=>absurd h (Nat.not_lt_zero _),by simp⟩⟩
 | i+1,hi=>by
   obtain⟨l,hl⟩:=zFv (ins:=ins) i (by omega)
   obtain⟨x,hx⟩:∃ x,ins[i]?=some x:=⟨_,List.getElem?_eq_getElem (by omega)⟩
   by_cases hm:keyI ins i∈l
   ·exact⟨l,hl.skip (fun _ _ _ _=>hm)⟩
   ·generalize hn:keyI ins i=n at hm
    have h1:∀(j:Nat) (y:Int),j < (l.takeWhile (fun y=>decide (y < n))).length→l[j]?=some y→y < n:=fun j y hj hy=>by
     have hp:=List.takeWhile_prefix (fun y=>decide (y < n)) (l:=l)
     obtain⟨r,hr⟩:=hp
     have:(l.takeWhile (fun y=>decide (y < n)))[j]?=some y:=by
      rw[← List.getElem?_append_left (l₂:=r) hj,hr];exact hy
     have h5:=List.all_eq_true.1 (List.all_takeWhile (p:=fun y=>decide (y < n)) (l:=l)) y (List.mem_of_getElem? this)
     simpa using h5
    have h2:∀ y:Int,l[(l.takeWhile (fun y=>decide (y < n))).length]?=some y→n < y:=fun y hy=>by
     have hd:l.takeWhile (fun y=>decide (y < n))++l.dropWhile (fun y=>decide (y < n))=l:=List.takeWhile_append_dropWhile
     have h3:(l.dropWhile (fun y=>decide (y < n)))[0]?=some y:=by
      rw[← hd,List.getElem?_append_right (by simp)]at hy
      simpa using hy
     have h4:¬ y < n:=by
      have:=List.head?_dropWhile_not (fun y=>decide (y < n)) l
      rw[List.head?_eq_getElem?,h3]at this
      simpa using this
     have h5:y≠n:=fun e=>hm (by rw[← e];exact List.mem_of_getElem? hy)
     omega
    exact⟨_,hl.put hx hn (List.takeWhile_sublist _).length_le h1 h2⟩
theorem zIo (ins:List Ins):∃ l,LeastTo ins ins.length l:=zFv _ (Nat.le_refl _)
theorem zK6 {l:List (Int×Int)} (h:refSpans l=0):SpOk l∧l.length≤64:=by
 unfold refSpans at h
 split at h
 ·omega
 ·rename_i hb
  split at h
  ·omega
  ·have hb':∀ k,k < l.length→badAt l k=false:=fun k hk=>by
    refine Bool.eq_false_iff.2 fun hc=>hb (List.any_eq_true.2 ⟨k,List.mem_range.2 hk,hc⟩)
   refine⟨⟨fun p hp=>?_,?_⟩,by omega⟩
   ·obtain⟨k,hk⟩:=List.mem_iff_getElem?.1 hp
    have:=hb' k (List.getElem?_eq_some_iff.1 hk).1
    simp[badAt,hk]at this
    omega
   ·have hadj:∀ k p q,l[k]?=some p→l[k+1]?=some q→p.2 < q.1:=fun k p q hp hq=>by
     have:=hb' (k+1) (List.getElem?_eq_some_iff.1 hq).1
     simp[badAt,hp,hq]at this
     omega
    have hle:∀(k:Nat) p,l[k]?=some p→p.1≤p.2:=fun k p hp=>by
     have:=hb' k (List.getElem?_eq_some_iff.1 hp).1
     simp[badAt,hp]at this
     omega
    have hall:∀(d k:Nat) p q,l[k]?=some p→l[k+d+1]?=some q→p.2 < q.1:=by
     intro d
     induction d with
     | zero=>exact fun k p q hp hq=>hadj k p q hp hq
     | succ d ih=>
       intro k p q hp hq
       obtain⟨r,hr⟩:∃ r,l[k+d+1]?=some r:=⟨_,List.getElem?_eq_getElem (by have:=(List.getElem?_eq_some_iff.1 hq).1;omega)⟩
       have h1:=ih k p r hp hr
       have h2:=hadj (k+d+1) r q hr hq
       have h3:=hle _ r hr
       omega
    refine List.pairwise_iff_getElem.2 fun i j hi hj hij=>?_
    obtain⟨d,rfl⟩:∃ d,j=i+d+1:=⟨j - i - 1,by omega⟩
    exact hall d i _ _ (List.getElem?_eq_getElem hi) (List.getElem?_eq_getElem hj)
theorem zIm {g:Prg} (h:acceptG g=0):OkP g.ins:=by
 unfold acceptG at h
 split at h
 ·rename_i h1;exact absurd h h1
 ·rename_i h1
  have h1':validG g=0:=Classical.byContradiction fun e=>h1 e
  split at h
  ·omega
  ·rename_i h5
   unfold validG at h1'
   split at h1'
   ·omega
   ·rename_i hl
    split at h1'
    ·omega
    ·rename_i hc
     split at h1'
     ·rename_i hv
      simp only[Bool.and_eq_true,List.all_eq_true]at hv
      obtain⟨hv,hlast⟩:=hv
      have hop5:∀ i∈g.ins,i.op≠5:=fun i hi e=>h5 (List.any_eq_true.2 ⟨i,hi,by simp[e]⟩)
      have hnl:∀ n i,g.ins[n]?=some i→i.op=1∨i.op=4→n+1 < g.ins.length:=fun n i hi ho=>by
       have hn:=(List.getElem?_eq_some_iff.1 hi).1
       refine Classical.byContradiction fun hne=>?_
       have e:g.ins.length - 1=n:=by omega
       unfold lastGood at hlast
       rw[e,hi]at hlast
       simp only[Bool.or_eq_true,beq_iff_eq]at hlast
       omega
      have hops:∀ i∈g.ins,i.op=0∨i.op=1∨i.op=2∨i.op=3∨i.op=4:=fun i hi=>by
       have:=hv i hi
       have h6:=hop5 i hi
       simp only[okIns,Bool.and_eq_true,Bool.or_eq_true,beq_iff_eq,decide_eq_true_eq]at this
       omega
      refine⟨by omega,by omega,hops,?_,fun n i hi ho=>hnl n i hi (.inl ho),?_⟩
      ·intro n i hi
       have:=hv i (List.mem_of_getElem? hi)
       simp only[okIns,Bool.and_eq_true,Bool.or_eq_true,beq_iff_eq,decide_eq_true_eq]at this
       refine⟨fun ho=>?_,fun ho=>?_,fun ho=>?_⟩
       ·omega
       ·omega
       ·have:=hnl n i hi (.inr ho)
        omega
      ·intro i hi
       have:=hv i hi
       simp only[okIns,Bool.and_eq_true,Bool.or_eq_true,beq_iff_eq,decide_eq_true_eq]at this
       by_cases ho:i.op=1
       ·exact zK6 (by omega)
       ·have:i.set=[]:=List.length_eq_zero_iff.1 (by omega)
        rw[this]
        exact⟨⟨fun p hp=>by simp at hp,List.Pairwise.nil⟩,by simp⟩
     ·omega
end Go.Ev
namespace Go.Ev
attribute [local go_sem] evBuild splice List.length_append List.map_append tySzE List.head?_drop Nat.mul_one zAN zAQ zAL zAO zAP zAU
section
open Go.Proofs Go.RowKit Go.IntWalk
set_option maxRecDepth 100000
set_option maxHeartbeats 16000000
structure RevTo (l m:List Int) (i:Nat):Prop where
 len:m.length=l.length
 low:∀ k,k < i→m[k]?=l[l.length - 1 - k]?
 mid:∀ k,i≤k→k+i < l.length→m[k]?=l[k]?
 high:∀ k,k < l.length→l.length≤k+i→m[k]?=l[l.length - 1 - k]?
theorem RevTo.step {l m:List Int} {i:Nat} (h:RevTo l m i) (hi:i+i+1 < l.length) {x y:Int} (hx:l[i]?=some x) (hy:l[l.length - 1 - i]?=some y):RevTo l ((m.set i y).set (l.length - 1 - i) x) (i+1):=by
 have hl:=h.len
 refine⟨by simp[hl],fun k hk=>?_,fun k hk hk2=>?_,fun k hk hk2=>?_⟩
 ·rw[List.getElem?_set_ne (by omega)]
  rcases Nat.lt_succ_iff_lt_or_eq.1 hk with h1|rfl
  ·rw[List.getElem?_set_ne (by omega)];exact h.low k h1
  ·rw[List.getElem?_set_self (by omega),hy]
 ·rw[List.getElem?_set_ne (by omega),List.getElem?_set_ne (by omega)]
  exact h.mid k (by omega) (by omega)
 ·by_cases e:k=l.length - 1 - i
  ·subst e
   rw[List.getElem?_set_self (by simp;omega),show l.length - 1 - (l.length - 1 - i)=i by omega,hx]
  ·rw[List.getElem?_set_ne (by omega),List.getElem?_set_ne (by omega)]
   exact h.high k hk (by omega)
theorem RevTo.done {l m:List Int} {i:Nat} (h:RevTo l m i) (hi:l.length≤i+i+1):m=l.reverse:=by
 have hl:=h.len
 refine List.ext_getElem? fun k=>?_
 by_cases hk:k < l.length
 ·rw[List.getElem?_reverse hk]
  by_cases h1:k < i
  ·exact h.low k h1
  ·by_cases h2:l.length≤k+i
   ·exact h.high k hk h2
   ·have:l.length - 1 - k=k:=by omega
    rw[this]
    exact h.mid k (by omega) (by omega)
 ·rw[List.getElem?_eq_none (by omega),List.getElem?_eq_none (by simp;omega)]
theorem f39 (g:Prg) (l:List Int) (hl:l.length≤1000000):call Tryd.prog pol1 31 [.ms 1 1 l.length 0 l.length] [.row 3 [prgAV g] 0,.row 1 (l.map I) 0]=some (.tup [],[.row 3 [prgAV g] 0,.row 1 (l.reverse.map I) 0]):=by
 refine zAg (pol:=pol1) Tryd.func31 rfl rfl rfl rfl (zAa _ _ 0 rfl) ?_
 have hw0:IntKind.i64.wrap (((l.length:Nat):Int) - 1)=((l.length:Nat):Int) - 1:=by rw[i64_in]<;>omega
 simp +contextual (disch:=omega) only[Tryd.f31,dd31,go_sem,simprocAttr,evAppend,mu31,↓zAE,↓zAC,↓zAB,↓zAA,hw0]
 refine zHw (σ:=Nat×List Int) (M:=(mskOf (pol1.mask 31) (pol1.gc 31) (pol1.acts 31) 0 1)) (by rfl) (fun s=>(⟨28,[(3,I (((l.length:Nat):Int) - 1 - s.1)),(2,NV s.1),(0,.ms 1 1 l.length 0 l.length)],[.row 3 [prgAV g] 0,.row 1 (s.2.map I) 0]⟩:St)) (fun s=>s.1≤l.length∧RevTo l s.2 s.1) (fun s=>l.length - s.1) (0,l) ?_ ⟨Nat.zero_le _,rfl,fun k hk=>by omega,fun k _ _=>rfl,fun k h1 h2=>by omega⟩ _ ?_
 ·rintro⟨i,m⟩ ⟨hi,hR⟩
  simp only at hi hR ⊢
  have hml:=hR.len
  by_cases hlt:i+i+1 < l.length
  ·obtain⟨x,hx⟩:∃ x,l[i]?=some x:=⟨_,List.getElem?_eq_getElem (by omega)⟩
   obtain⟨y,hy⟩:∃ y,l[l.length - 1 - i]?=some y:=⟨_,List.getElem?_eq_getElem (by omega)⟩
   have hx':(m.map I)[i]?=some (I x):=by simp[hR.mid i (Nat.le_refl _) (by omega),hx]
   have hy':(m.map I)[l.length - 1 - i]?=some (I y):=by simp[hR.mid (l.length - 1 - i) (by omega) (by omega),hy]
   have hje:((l.length:Nat):Int) - 1 - (i:Int)=((l.length - 1 - i:Nat):Int):=by omega
   have hc:((i:Int) < ((l.length - 1 - i:Nat):Int))=True:=eq_true (by omega)
   have hb1:((i:Int) < ((l.length:Nat):Int))=True:=eq_true (by omega)
   have hb2:(((l.length - 1 - i:Nat):Int) < ((l.length:Nat):Int))=True:=eq_true (by omega)
   have hwi:IntKind.i64.wrap ((i:Int)+1)=((i+1:Nat):Int):=by rw[i64_in]<;>omega
   have hwj:IntKind.i64.wrap (((l.length - 1 - i:Nat):Int) - 1)=((l.length:Nat):Int) - 1 - ((i+1:Nat):Int):=by rw[i64_in]<;>omega
   have hgs:((m.map I).set i (I y))[l.length - 1 - i]?=some (I y):=by rw[List.getElem?_set_ne (by omega)];exact hy'
   have hsl:((m.map I).set i (I y)).length=l.length:=by simp[hml]
   rw[hje]
   simp +contextual (disch:=omega) only[Tryd.f31,dd31,go_sem,simprocAttr,evAppend,mu31,↓zAE,↓zAC,↓zAB,↓zAA,hx',hy',hc,hb1,hb2,hwi,hwj,zAR,hml,hgs,hsl]
   repeat' (first|intro _|apply And.intro|(unfold dOk;kernel_rfl)|exact St.beq_refl _|(show altO _ _ _ _=true;kernel_rfl)|(show (_ || _)=true;kernel_rfl)|(show (_ && _)=true;kernel_rfl))
   refine⟨(i+1,(m.set i y).set (l.length - 1 - i) x),⟨by simp only;omega,hR.step hlt hx hy⟩,by simp only;omega,?_⟩
   simp only[List.map_set]
   rw[show ((l.length:Nat):Int) - 1 - ((i+1:Nat):Int)=((l.length - 1 - i - 1:Nat):Int) by omega]
   rfl
  ·have hc:((i:Int) < ((l.length:Nat):Int) - 1 - (i:Int))=False:=eq_false (by omega)
   simp +contextual (disch:=omega) only[Tryd.f31,dd31,go_sem,simprocAttr,evAppend,mu31,↓zAE,↓zAC,↓zAB,↓zAA,hc]
   rw[hR.done (by omega)]
   have h1:=zAD 2 _ (zAF l.reverse)
   refine zAf rfl rfl rfl ?_ rfl
   simp only[keptOk,MB.beq_refl,MB.under,h1,Bool.or_true,Bool.true_or,Bool.and_true,Bool.true_and,List.length_cons,List.length_nil]
 ·rw[show (((l.length:Nat):Int) - 1 - (((0,l):Nat×List Int).1:Int))=((l.length:Nat):Int) - 1 by simp]
  rfl
theorem g17 (ins:List Ins) (caps n:Int) (H:List MB):call Tryd.prog pol1 11 [.pt [.sl false (ins.map insAV),I caps,I n]] H=some (I n,H):=by
 refine zAS Tryd.func11 rfl rfl rfl rfl rfl rfl (fun _=>rfl) (by simp[AV.plain,AV.plainL,zAF,zAG,zAH,zAI]) (by simp[AV.plain,AV.plainL,zAF,zAG,zAH,zAI]) ?_ H
 simp +contextual (disch:=omega) only[Tryd.f11,dd11,go_sem,simprocAttr,evAppend,mu11,↓zAE,↓zAC,↓zAB,↓zAA]
 exact⟨_,rfl⟩
theorem zId {ins:List Ins} {syms:List Int}:∀(f i:Nat) (ys xs:List RS),srch ins syms f i ys=(xs,true)→0 < xs.length
 | 0,i,ys,xs,h=>by simp[srch]at h
 | f+1,i,ys,xs,h=>by
   unfold srch at h
   split at h
   ·simp at h
   ·rename_i r hr
    split at h
    ·simp only[Prod.mk.injEq,and_true]at h
     rw[← h,List.length_take]
     have:=(List.getElem?_eq_some_iff.1 hr).1
     omega
    ·exact zId f _ _ _ h
def lastTx (xs:List RS):List Int:=match xs[xs.length - 1]? with
 | some r=>r.tx
 | none=>[]
theorem g14 (g:Prg) (hb:PrgB g) (ha:acceptG g=0):∃ r:AV,(∃ xs fk,Explored g.ins xs fk∧r=.tup [.sl false ((if fk then lastTx xs else []).map I),.bool fk,I 0])∧∀ H,call Tryd.prog pol1 15 [prgAV g] H=some (r,H):=by
 have h35:=f35 g hb
 rw[ha]at h35
 have h:=zIm ha
 obtain⟨syms,hsy⟩:=zIo _
 obtain⟨r36,⟨xs,fk,hex,rfl⟩,h36⟩:=f36 h
 have hxl:=hex.1.len
 have hl:=h.len
 refine zCZ Tryd.func15 rfl rfl rfl rfl rfl rfl (fun _=>rfl) (by simp[AV.plain,AV.plainL,zAF,zAG,zAH,zAI]) ?_ ?_
 ·rintro r ⟨xs,fk,_,rfl⟩;simp[AV.plain,AV.plainL,zAF]
 cases fk with
 | false=>
   simp +contextual (disch:=omega) only[Tryd.f15,dd15,go_sem,simprocAttr,evAppend,mu15,↓zAE,↓zAC,↓zAB,↓zAA,h35,h36]
   exact⟨_,⟨xs,false,hex,rfl⟩,_,rfl⟩
 | true=>
   have hpos:=zId _ _ _ _ (hex.2 syms hsy)
   have hw0:IntKind.i64.wrap (((xs.length:Nat):Int) - 1)=((xs.length - 1:Nat):Int):=by rw[i64_in]<;>omega
   simp +contextual (disch:=omega) only[Tryd.f15,dd15,go_sem,simprocAttr,evAppend,mu15,↓zAE,↓zAC,↓zAB,↓zAA,h35,h36,hw0]
   obtain⟨q,hq⟩:∃ q,xs[xs.length - 1]?=some q:=⟨_,List.getElem?_eq_getElem (by omega)⟩
   have hlt:lastTx xs=q.tx:=by simp[lastTx,hq]
   have hqt:=hex.1.txl _ q hq
   have hu:∀ acc:List Int,[MB.row 3 [prgAV g] 0,.row 1 (acc.map I) 0].all (MB.under 2)=true:=fun acc=>by
    have h1:=zAD 2 _ (zAH g.ins)
    have h2:=zAD 2 _ (zAF acc)
    simp[MB.under,AV.underL,AV.under,h1,h2]
   have hk9:∀(j:Int) (n:Nat),AV.underL 2 [.int .i64 j,.ms 1 1 n 0 n,.sl false (xs.map rsAV)]=true:=fun j n=>by
    have:=zAD 2 _ (zDn xs)
    simp[AV.underL,AV.under,this]
   refine zHw (σ:=Nat×List Int) (M:=(mskOf (pol1.mask 15) (pol1.gc 15) (pol1.acts 15) 0 9)) (by rfl) (fun s=>(⟨48,[(9,NV s.1),(8,.ms 1 1 s.2.length 0 s.2.length),(6,.sl false (xs.map rsAV))],[.row 3 [prgAV g] 0,.row 1 (s.2.map I) 0]⟩:St)) (fun s=>∃ r,xs[s.1]?=some r∧s.2++r.tx.reverse=q.tx.reverse) (fun s=>s.1) (xs.length - 1,[]) ?_ ⟨q,hq,rfl⟩ _ ?_
   ·rintro⟨j,acc⟩ ⟨r,hr,hacc⟩
    simp only at hr hacc ⊢
    have hr':(xs.map rsAV)[j]?=some (rsAV r):=by simp[hr]
    have hjl:=(List.getElem?_eq_some_iff.1 hr).1
    have hltj:((j:Int) < ((xs.length:Nat):Int))=True:=eq_true (by omega)
    have hal:acc.length≤100000:=by
     have:=congrArg List.length hacc
     simp at this
     omega
    rcases hex.1.bk j r hr with ⟨h1,h2⟩|⟨k,r2,h1,h2,h3,h4⟩
    ·rw[h2,List.reverse_nil,List.append_nil]at hacc
     have h39:=f39 g acc (by omega)
     simp +contextual (disch:=omega) only[Tryd.f15,dd15,go_sem,simprocAttr,evAppend,mu15,↓zAE,↓zAC,↓zAB,↓zAA,hr',hltj,zAR,h1,h39]
     refine⟨_,⟨xs,true,hex,rfl⟩,?_⟩
     rw[if_pos rfl,hlt]
     have he:acc.reverse=q.tx:=by rw[hacc,List.reverse_reverse]
     have h2:fzA (fzJ 6) (.ms 1 1 acc.length 0 acc.length) [.row 3 [prgAV g] 0,.row 1 (acc.reverse.map I) 0]=some (.sl false (acc.reverse.map I),_):=zDW (n:=5) rfl (by simp) (zAF _)
     refine⟨mark [.row 3 [prgAV g] 0,.row 1 (acc.reverse.map I) 0] 1 acc.length,?_⟩
     rw[← he]
     simp only[fz,zEC,fzL,h2]
     rfl
    ·have ap:=fun(t:Bool)=>appI (H:=[MB.row 3 [prgAV g] 0,.row 1 (acc.map I) 0]) (i:=1) (n:=acc.length) (rs:=acc) (l:=[r.sy]) (t:=t) rfl rfl (by simp;omega)
     simp only[List.set,List.map_append,List.map_cons,List.map_nil,List.length_cons,List.length_nil,Nat.zero_add]at ap
     have hge:((0:Int)≤((k:Nat):Int))=True:=eq_true (by omega)
     simp +contextual (disch:=omega) only[Tryd.f15,dd15,go_sem,simprocAttr,mu15,↓zAE,↓zAC,↓zAB,↓zAA,hr',hltj,zAR,h2,hge,ap]
     have hun:=hu (acc++[r.sy])
     simp only[List.map_append,List.map_cons,List.map_nil]at hun
     refine⟨(k,acc++[r.sy]),⟨r2,h3,?_⟩,h1,?_⟩
     ·simp only
      rw[h4]at hacc
      rw[← hacc]
      simp
     ·simp only[List.map_append,List.map_cons,List.map_nil,List.length_append,List.length_cons,List.length_nil,Nat.zero_add]
      exact zAV rfl rfl (hk9 _ _) hun rfl
   ·exact zAV rfl rfl (hk9 _ 0) (hu []) rfl
end
section
attribute [local go_sem] evAppend
open Go.Proofs Go.RowKit Go.IntWalk
set_option maxRecDepth 100000
set_option maxHeartbeats 16000000
theorem f38 (l:List (Int×Int)) (hl:l.length≤1000000) (x y:MB):call Tryd.prog pol1 27 [.sl false (l.map spanAV)] [x,y]=some (.sl false (l.map spanAV),[x,y]):=by
 rw[zAw]
 unfold evStep
 rw[if_neg (show ¬ pol1.pure 27=true by decide),if_neg (by decide)]
 show cloneExt 2 16 [.sl false (l.map spanAV)] [x,y]=_
 have h1:((l.map spanAV).all fun y=>decide (y.cells.length=2) && y.cells.all AV.ok)=true:=by
  rw[List.all_eq_true]
  intro y hy
  obtain⟨p,_,rfl⟩:=List.mem_map.1 hy
  rfl
 have h2:roomFor (l.map spanAV).length 16=true:=zAU (by simp;omega) (by omega)
 unfold cloneExt
 simp only[elemsOf]
 rw[if_pos ⟨h1,h2,zAG l⟩]
theorem f37 (l:List Ins) (hl:0 < l.length∧l.length≤1000000) (K:List MB):call Tryd.prog pol1 26 [.sl false (l.map insAV)] K=some (.ms K.length 5 l.length 0 l.length,K++[.row 5 (l.map insAV) 0]):=by
 rw[zAw]
 unfold evStep
 rw[if_neg (show ¬ pol1.pure 26=true by decide),if_neg (by decide)]
 show cloneExtO 5 56 [.sl false (l.map insAV)] K=_
 have h1:((l.map insAV).all fun y=>decide (y.cells.length=5) && y.cells.all AV.ok)=true:=by
  rw[List.all_eq_true]
  intro y hy
  obtain⟨p,_,rfl⟩:=List.mem_map.1 hy
  rfl
 have h2:roomFor (l.map insAV).length 56=true:=zAU (by simp;omega) (by omega)
 unfold cloneExtO
 simp only[elemsOf]
 rw[if_pos ⟨h1,h2⟩]
 cases l with
 | nil=>simp at hl
 | cons y ys=>simp
theorem g12 (g:Prg) (hb:PrgB g) (ha:acceptG g=0):∃ r:AV,(∃ xs fk,Explored g.ins xs fk∧r=if fk=true then .tup [.nilp,I 10] else .tup [.pt [.sl false (g.ins.map insAV),I g.caps,NV xs.length],I 0])∧∀ H,call Tryd.prog pol1 10 [prgAV g] H=some (r,H):=by
 have h35:=f35 g hb
 rw[ha]at h35
 have h:=zIm ha
 have hl:=h.len
 obtain⟨r36,⟨xs,fk,hex,rfl⟩,h36⟩:=f36 h
 have h37:=f37 g.ins ⟨h.pos,by omega⟩
 refine zCZ Tryd.func10 rfl rfl rfl rfl rfl rfl (fun _=>rfl) (by simp[AV.plain,AV.plainL,zAF,zAG,zAH,zAI]) ?_ ?_
 ·rintro r ⟨xs,fk,_,rfl⟩
  split
  ·rfl
  ·simp[AV.plain,AV.plainL,zAH]
 cases fk with
 | true=>
   simp +contextual (disch:=omega) only[Tryd.f10,dd10,go_sem,simprocAttr,mu10,↓zAE,↓zAC,↓zAB,↓zAA,h35,h36]
   exact⟨_,⟨xs,true,hex,rfl⟩,_,rfl⟩
 | false=>
   simp +contextual (disch:=omega) only[Tryd.f10,dd10,go_sem,simprocAttr,mu10,↓zAE,↓zAC,↓zAB,↓zAA,h35,h36,h37]
   refine zAY (M:=(mskOf (pol1.mask 10) (pol1.gc 10) (pol1.acts 10) 0 9)) (by rfl) g.ins.length (fun i=>(⟨47,[(26,NV i),(25,NV g.ins.length),(7,.ms 1 5 g.ins.length 0 g.ins.length),(5,.sl false (xs.map rsAV)),(1,.rf 0 1 0 0)],[.row 3 [prgAV g] 0,.row 5 (g.ins.map insAV) 0]⟩:St)) (fun _=>True) ?_ ?_ trivial _ ?_
   ·intro i hi _
    obtain⟨p,hp⟩:∃ p,g.ins[i]?=some p:=⟨_,List.getElem?_eq_getElem hi⟩
    have hp':(g.ins.map insAV)[i]?=some (insAV p):=by simp[hp]
    have hset:(g.ins.map insAV).set i (insAV p)=g.ins.map insAV:=by
     apply List.ext_getElem?
     intro q
     by_cases e:i=q
     ·subst e;rw[List.getElem?_set_self (by simpa using hi),hp']
     ·rw[List.getElem?_set_ne e]
    have hc29:=fun x y:MB=>f38 p.set (hb.2 p (List.mem_of_getElem? hp)) x y
    have hlt:((i:Int) < ((g.ins.length:Nat):Int))=True:=eq_true (by omega)
    have hwi:IntKind.i64.wrap ((i:Int)+1)=((i+1:Nat):Int):=by rw[i64_in]<;>omega
    simp +contextual (disch:=omega) only[Tryd.f10,dd10,go_sem,simprocAttr,mu10,↓zAE,↓zAC,↓zAB,↓zAA,hp',hc29,hset,hlt,hwi,zAR]
    rfl
   ·intro _
    simp +contextual (disch:=omega) only[Tryd.f10,dd10,go_sem,simprocAttr,mu10,↓zAE,↓zAC,↓zAB,↓zAA]
    have h1:fzA (fzJ 5) (.ms 1 5 g.ins.length 0 g.ins.length) [.row 3 [prgAV g] 0,.row 5 (g.ins.map insAV) 0,.row 3 [.agg [.ms 1 5 g.ins.length 0 g.ins.length,I g.caps,NV xs.length]] 1]=some (.sl false (g.ins.map insAV),_):=zDW (n:=4) rfl (by simp) (zAH _)
    have h2:fzA (fzJ 6) (.rf 2 1 0 0) [.row 3 [prgAV g] 0,.row 5 (g.ins.map insAV) 0,.row 3 [.agg [.ms 1 5 g.ins.length 0 g.ins.length,I g.caps,NV xs.length]] 0]=some (.pt [.sl false (g.ins.map insAV),I g.caps,NV xs.length],mark [.row 3 [prgAV g] 0,.row 5 (g.ins.map insAV) 0,.row 3 [.agg [.ms 1 5 g.ins.length 0 g.ins.length,I g.caps,NV xs.length]] 1] 1 g.ins.length):=by
     show (match fzL (fzJ 5) [.ms 1 5 g.ins.length 0 g.ins.length,I g.caps,NV xs.length] [.row 3 [prgAV g] 0,.row 5 (g.ins.map insAV) 0,.row 3 [.agg [.ms 1 5 g.ins.length 0 g.ins.length,I g.caps,NV xs.length]] 1] with
      | some (ys,H')=>some (AV.pt ys,H')
      | none=>none)=_
     simp only[fzL,h1,zFF]
    refine⟨_,⟨xs,false,hex,rfl⟩,mark [.row 3 [prgAV g] 0,.row 5 (g.ins.map insAV) 0,.row 3 [.agg [.ms 1 5 g.ins.length 0 g.ins.length,I g.caps,NV xs.length]] 1] 1 g.ins.length,?_⟩
    simp only[fz,zEC,fzL,h2,zFF]
    rfl
   ·rfl
end
section
attribute [local go_sem] evAppend
open Go.Proofs Go.RowKit Go.IntWalk
set_option maxRecDepth 100000
set_option maxHeartbeats 16000000
def disAll:List (Int×Int)→Bool
 | []=>true
 | p::l=>l.all (fun q=>decide (p.2 < q.1) || decide (q.2 < p.1)) && disAll l
theorem zF2:∀ l:List (Int×Int),disAll l=true↔l.Pairwise DisS
 | []=>by simp[disAll]
 | p::l=>by
   simp only[disAll,Bool.and_eq_true,List.all_eq_true,Bool.or_eq_true,decide_eq_true_eq,List.pairwise_cons,zF2 l]
   rfl
def forkB (ins:List Ins) (st:Nat):Bool:=(fromS ins st).tw || (decide (1 < (exS ins st).dn) || !disAll (exS ins st).sp)
theorem zHT (ins:List Ins) (st:Nat):forkB ins st=true↔ForkS ins st:=by
 unfold forkB ForkS
 rw[← zF2]
 simp
def srchB (ins:List Ins) (syms:List Int):Nat→Nat→List RS→List RS×Bool
 | 0,_,xs=>(xs,false)
 | f+1,i,xs=>match xs[i]? with
   | none=>(xs,false)
   | some r=>if forkB ins r.st=true then(xs.take (i+1),true) else srchB ins syms f (i+1) (syms.foldl (addS ins i r) xs)
theorem zEp (ins:List Ins) (syms:List Int):∀(f i:Nat) (xs:List RS),srchB ins syms f i xs=srch ins syms f i xs
 | 0,i,xs=>rfl
 | f+1,i,xs=>by
   unfold srchB srch
   cases xs[i]? with
   | none=>rfl
   | some r=>
     simp only
     by_cases h:forkB ins r.st=true
     ·rw[if_pos h,if_pos ((zHT _ _).1 h)]
     ·rw[if_neg h,if_neg fun hf=>h ((zHT _ _).2 hf)]
      exact zEp ins syms f (i+1) _
def thenP (c:Int):Prg:=⟨[⟨2,1,3,0,[]⟩,⟨1,0,0,0,[(97,97)]⟩,⟨3,0,0,0,[]⟩,⟨1,0,0,0,[(c,c)]⟩,⟨0,0,0,0,[]⟩],0,false⟩
def bothP:Prg:=⟨[⟨1,0,0,0,[(98,98)]⟩,⟨2,2,4,0,[]⟩,⟨1,0,0,0,[(97,97)]⟩,⟨3,6,0,0,[]⟩,⟨1,0,0,0,[(97,97)]⟩,⟨1,0,0,0,[(98,98)]⟩,⟨0,0,0,0,[]⟩],0,false⟩
noncomputable def polV:Pol:={ pol0 with pure:=fun f=>!(10::15::notPure).contains f,ext:=fun f=>if f=21 then none else if f=10 then some (call Tryd.prog pol1 10) else if f=15 then some (call Tryd.prog pol1 15) else pol0.ext f,muts:=fun f=>if f=14 then [1000012,1000016] else if f=5 then [1000090,1000095] else if f=28 then [3000000] else pol0.muts f }
theorem srB:srch (thenP 98).ins [97,98] 6 0 xs0=([⟨0,-1,0,[]⟩,⟨2,0,97,[97]⟩,⟨4,0,98,[98]⟩],false):=by
 rw[← zEp]
 rfl
theorem srA:∃ xs,srch (thenP 97).ins [97] 6 0 xs0=(xs,true)∧lastTx xs=[]:=by
 refine⟨[⟨0,-1,0,[]⟩],?_,rfl⟩
 rw[← zEp]
 rfl
theorem srP:∃ xs,srch bothP.ins [97,98] 8 0 xs0=(xs,true)∧lastTx xs=[98]:=by
 refine⟨[⟨0,-1,0,[]⟩,⟨1,0,98,[98]⟩],?_,rfl⟩
 rw[← zEp]
 rfl
theorem zGO {ins:List Ins} {l:List Int} (h1:l.Pairwise (·< ·)) (h2:l.length≤ins.length) (h3:(List.range ins.length).all (fun n=>match ins[n]? with
  | some x=>!(decide (x.op=1) && decide (0 < x.set.length)) || l.contains (keyI ins n)
  | none=>true)=true):LeastTo ins ins.length l:=by
 refine⟨h1,fun n x hn hx ho hs=>?_,h2⟩
 have:=List.all_eq_true.1 h3 n (List.mem_range.2 hn)
 simp only[hx,ho,hs,decide_true,Bool.and_self,Bool.not_true,Bool.false_or]at this
 simpa using this
theorem lsB:LeastTo (thenP 98).ins (thenP 98).ins.length [97,98]:=zGO (by simp) (by decide) (by decide)
theorem lsA:LeastTo (thenP 97).ins (thenP 97).ins.length [97]:=zGO (by simp) (by decide) (by decide)
theorem lsP:LeastTo bothP.ins bothP.ins.length [97,98]:=zGO (by simp) (by decide) (by decide)
theorem zCR {g:Prg} (h:g.ins.all (fun i=>decide (i.set.length≤1))=true) (h2:g.ins.length≤20):PrgB g:=⟨by omega,fun i hi=>by
 have:=List.all_eq_true.1 h i hi
 simp at this
 omega⟩
theorem c12b:∀ H,call Tryd.prog pol1 10 [prgAV (thenP 98)] H=some (.tup [.pt [.sl false ((thenP 98).ins.map insAV),I 0,I 3],I 0],H):=by
 obtain⟨r,⟨xs,fk,hex,rfl⟩,h⟩:=g12 (thenP 98) (zCR (by decide) (by decide)) (by decide)
 have:=hex.2 _ lsB
 rw[show (thenP 98).ins.length+1=6 from rfl,srB]at this
 simp only[Prod.mk.injEq]at this
 obtain⟨rfl,rfl⟩:=this
 exact h
theorem c12a:∀ H,call Tryd.prog pol1 10 [prgAV (thenP 97)] H=some (.tup [.nilp,I 10],H):=by
 obtain⟨r,⟨xs,fk,hex,rfl⟩,h⟩:=g12 (thenP 97) (zCR (by decide) (by decide)) (by decide)
 obtain⟨ys,e1,e2⟩:=srA
 have:=hex.2 _ lsA
 rw[show (thenP 97).ins.length+1=6 from rfl,e1]at this
 simp only[Prod.mk.injEq]at this
 obtain⟨rfl,rfl⟩:=this
 exact h
theorem c14a:∀ H,call Tryd.prog pol1 15 [prgAV (thenP 97)] H=some (.tup [.sl false [],.bool true,I 0],H):=by
 obtain⟨r,⟨xs,fk,hex,rfl⟩,h⟩:=g14 (thenP 97) (zCR (by decide) (by decide)) (by decide)
 obtain⟨ys,e1,e2⟩:=srA
 have:=hex.2 _ lsA
 rw[show (thenP 97).ins.length+1=6 from rfl,e1]at this
 simp only[Prod.mk.injEq]at this
 obtain⟨rfl,rfl⟩:=this
 rw[e2]at h
 exact h
theorem c14p:∀ H,call Tryd.prog pol1 15 [prgAV bothP] H=some (.tup [.sl false [I 98],.bool true,I 0],H):=by
 obtain⟨r,⟨xs,fk,hex,rfl⟩,h⟩:=g14 bothP (zCR (by decide) (by decide)) (by decide)
 obtain⟨ys,e1,e2⟩:=srP
 have:=hex.2 _ lsP
 rw[show bothP.ins.length+1=8 from rfl,e1]at this
 simp only[Prod.mk.injEq]at this
 obtain⟨rfl,rfl⟩:=this
 rw[e2]at h
 exact h
end
section
attribute [local go_sem] evAppend
open Go.Proofs Go.RowKit Go.IntWalk
set_option maxRecDepth 100000
set_option maxHeartbeats 16000000
abbrev cB:AV:=.pt [.sl false ((thenP 98).ins.map insAV),I 0,I 3]
abbrev args44 (x:Nat×Nat×List Int):List AV:=[cB,NV x.1,.sl false (x.2.2.map I),NV x.2.1]
def res44 (x:Nat×Nat×List Int):AV:=match runS (thenP 98).ins enC (yiC (thenP 98).ins x.2.2 x.2.1) 20 [(x.1,m0S)] CS0 with
 | some sF=>.tup [I sF.nx,.agg (sF.way.map AV.bool),.bool sF.dn,.agg (sF.la.map AV.bool)]
 | none=>.top
def tab44:List (Nat×Nat×List Int):=[(0,0,[97,97,98,98]),(2,1,[97,97,98,98]),(2,2,[97,97,98,98]),(4,3,[97,97,98,98]),(0,0,[97,97]),(2,1,[97,97]),(2,2,[97,97])]
def ext44 (args:List AV) (H:List MB):Option (AV×List MB):=match tab44.find? (fun x=>AV.beqL args (args44 x)) with
 | some x=>some (res44 x,H)
 | none=>none
theorem zLf:LeadsR (thenP 98).ins:=(zIm (g:=thenP 98) (by decide)).leads
theorem zIG {args:List AV} {H H':List MB} {r:AV} (h:ext44 args H=some (r,H')):CallSound Tryd.prog 28 args H r H':=by
 unfold ext44 at h
 split at h
 ·rename_i x hx
  simp only[Option.some.injEq,Prod.mk.injEq]at h
  obtain⟨rfl,rfl⟩:=h
  obtain rfl:=AV.eq_of_beqL _ _ (by simpa using List.find?_some hx)
  have hm:=List.mem_of_find?_eq_some hx
  have hset:∀ i∈(thenP 98).ins,i.set.length≤1000000:=(zCR (g:=thenP 98) (by decide) (by decide)).2
  have key:∀ x∈tab44,(∃ sF,runS (thenP 98).ins enC (yiC (thenP 98).ins x.2.2 x.2.1) 20 [(x.1,m0S)] CS0=some sF)∧x.1 < 5∧x.2.2.length≤10:=by
   intro x hx
   simp only[tab44,List.mem_cons,List.not_mem_nil,or_false]at hx
   rcases hx with rfl|rfl|rfl|rfl|rfl|rfl|rfl<;>exact⟨⟨_,rfl⟩,by decide,by decide⟩
  obtain⟨⟨sF,hs⟩,h1,h2⟩:=key x hm
  have:=f44 (thenP 98).ins 0 3 x.2.2 x.2.1 x.1 (by decide) (by omega) hset zLf h1 20 (by omega) sF hs H
  have hr:res44 x=.tup [I sF.nx,.agg (sF.way.map AV.bool),.bool sF.dn,.agg (sF.la.map AV.bool)]:=by unfold res44;rw[hs]
  rw[hr]
  exact ok1.1 _ _ _ _ _ (by decide) this
 ·cases h
noncomputable def polU:Pol:={ polV with pure:=fun f=>!(28::10::15::notPure).contains f,ext:=fun f=>if f=28 then some ext44 else polV.ext f }
theorem u42b (H:List MB):call Tryd.prog polU 14 [I 98] H=some (prgAV (thenP 98),H):=zAn (n:=60) 20 14 _ _ _ (by kernel_rfl)
theorem u42a (H:List MB):call Tryd.prog polU 14 [I 97] H=some (prgAV (thenP 97),H):=zAn (n:=60) 20 14 _ _ _ (by kernel_rfl)
theorem u21b (H:List MB):call Tryd.prog polU 12 [cB,.sl false [I 97,I 97,I 98,I 98],I 0] H=some (.tup [.agg [I 0,I 3,.sl false []],.bool true,I 0],H):=zAn (n:=60) 20 12 _ _ _ (by kernel_rfl)
theorem u21n (H:List MB):call Tryd.prog polU 12 [cB,.sl false [I 97,I 97],I 0] H=some (.tup [.agg [I 0,I 0,.sl false []],.bool false,I 0],H):=zAn (n:=60) 20 12 _ _ _ (by kernel_rfl)
theorem u17 (H:List MB):call Tryd.prog polU 11 [cB] H=some (I 3,H):=zAn (n:=60) 20 11 _ _ _ (by kernel_rfl)
theorem u18 (H:List MB):call Tryd.prog polU 16 [.sl false [I 98],.sl false [I 98]] H=some (.bool true,H):=zAn (n:=60) 20 16 _ _ _ (by kernel_rfl)
end
section
attribute [local go_sem] evAppend
open Go.Proofs Go.RowKit Go.IntWalk
set_option maxRecDepth 100000
set_option maxHeartbeats 16000000
theorem zJ9:polU.dead=pol1.dead:=rfl
theorem zJE:polU.bdead=pol1.bdead:=rfl
theorem zJD:polU.racts=pol1.racts:=rfl
theorem zJ8:polU.muts 5=[1000090,1000095]:=rfl
theorem zKA:polU.alts=pol1.alts:=rfl
theorem u12b (H:List MB):call Tryd.prog polU 10 [prgAV (thenP 98)] H=some (.tup [cB,I 0],H):=by
 rw[zAw]
 unfold evStep
 rw[if_neg (show ¬ polU.pure 10=true by decide),if_neg (by decide)]
 exact c12b H
theorem u12a (H:List MB):call Tryd.prog polU 10 [prgAV (thenP 97)] H=some (.tup [.nilp,I 10],H):=by
 rw[zAw]
 unfold evStep
 rw[if_neg (show ¬ polU.pure 10=true by decide),if_neg (by decide)]
 exact c12a H
theorem u14a (H:List MB):call Tryd.prog polU 15 [prgAV (thenP 97)] H=some (.tup [.sl false [],.bool true,I 0],H):=by
 rw[zAw]
 unfold evStep
 rw[if_neg (show ¬ polU.pure 15=true by decide),if_neg (by decide)]
 exact c14a H
theorem u14p (H:List MB):call Tryd.prog polU 15 [prgAV bothP] H=some (.tup [.sl false [I 98],.bool true,I 0],H):=by
 rw[zAw]
 unfold evStep
 rw[if_neg (show ¬ polU.pure 15=true by decide),if_neg (by decide)]
 exact c14p H
abbrev reSl (c:Int):List AV:=[I 1,.sl false [spanAV (c,c)],.sl false [],I 0,I 0,I 0,I 0,.bool false]
abbrev reB:List AV:=[I 3,.sl false [],.sl false [.agg (reSl 97),.agg [I 2,.sl false [],.sl false [.agg (reSl 97),.agg (reSl 98)],I 0,I 0,I 0,I 0,.bool false]],I 0,I 0,I 0,I 0,.bool false]
abbrev reP:List AV:=[I 2,.sl false [],.sl false [.agg (reSl 98),.agg reB],I 0,I 0,I 0,I 0,.bool false]
theorem u43a (H:List MB):call Tryd.prog polU 6 [I 97] H=some (.agg (reSl 97),H):=zAn (n:=60) 20 6 _ _ _ (by kernel_rfl)
theorem u43b (H:List MB):call Tryd.prog polU 6 [I 98] H=some (.agg (reSl 98),H):=zAn (n:=60) 20 6 _ _ _ (by kernel_rfl)
theorem u25 (H:List MB):call Tryd.prog polU 9 [.agg (reP++[I 0,.bool false])] H=some (.tup [prgAV bothP,I 0],H):=zAn (n:=60) 20 9 _ _ _ (by kernel_rfl)
theorem zLv (H:List MB):call Tryd.prog polU 12 [cB,.sl true [I 97,I 97,I 98,I 98],I 0] H=some (.tup [.agg [I 0,I 3,.sl false []],.bool true,I 0],H):=by
 rw[zC7 (l:=[cB,.sl false [I 97,I 97,I 98,I 98],I 0]) (H1:=H) rfl rfl rfl];exact u21b H
theorem zLu (H:List MB):call Tryd.prog polU 12 [cB,.sl true [I 97,I 97],I 0] H=some (.tup [.agg [I 0,I 0,.sl false []],.bool false,I 0],H):=by
 rw[zC7 (l:=[cB,.sl false [I 97,I 97],I 0]) (H1:=H) rfl rfl rfl];exact u21n H
theorem u18t (H:List MB):call Tryd.prog polU 16 [.sl false [I 98],.sl true [I 98]] H=some (.bool true,H):=by
 rw[zC7 (l:=[.sl false [I 98],.sl false [I 98]]) (H1:=H) rfl rfl rfl];exact u18 H
abbrev reT:AV:=.agg [.int .i64 2,.sl true [],.sl true [.agg (reSl 98),.agg [.int .i64 3,.sl true [],.sl true [.agg (reSl 97),.agg [.int .i64 2,.sl true [],.sl true [.agg (reSl 97),.agg (reSl 98)],.int .i64 0,.int .i64 0,.int .i64 0,.int .i64 0,.bool false]],.int .i64 0,.int .i64 0,.int .i64 0,.int .i64 0,.bool false]],.int .i64 0,.int .i64 0,.int .i64 0,.int .i64 0,.bool false,.int .i64 0,.bool false]
theorem u25t (H:List MB):call Tryd.prog polU 9 [reT] H=some (.tup [prgAV bothP,I 0],H):=by
 rw[zC7 (l:=[.agg (reP++[I 0,.bool false])]) (H1:=H) rfl rfl rfl];exact u25 H
theorem u19 (H:List MB):call Tryd.prog polU 5 [] H=some (.bool true,H):=by
 have e1:=u12b
 have e2:=u12a
 have e3:=u14a
 have e4:=zLv
 have e5:=zLu
 have e6:=u17
 have e7:=u43a
 have e8:=u43b
 have e9:=u14p
 have e10:=u18t
 have e11:=u42b
 have e12:=u42a
 have hnp:ofK (Value.pointer none)=.nilp:=rfl
 have a43:=fun H=>zF1 (cf:=call Tryd.prog polU) u43b rfl rfl H
 have a25:=fun H=>zF1 (cf:=call Tryd.prog polU) u25t rfl rfl H
 refine zAS Tryd.func5 rfl rfl rfl rfl rfl rfl (fun _=>rfl) (by simp[AV.plain,AV.plainL,zAF,zAG,zAH,zAI]) (by simp[AV.plain,AV.plainL,zAF,zAG,zAH,zAI]) ?_ H
 simp +contextual (disch:=omega) only[Tryd.f5,dd5,go_sem,simprocAttr,mu5,↓zAE,↓zAC,↓zAB,↓zAA,zJ9,zJE,zJD,zJ8,zKA,e11,e12,e1,e2,e3,hnp,e4,e5,e6,e7,e8,a43,a25,e9,e10]
 repeat' (first|intro _|apply And.intro|(unfold dOk;kernel_rfl)|exact St.beq_refl _|(show altO _ _ _ _=true;kernel_rfl)|(show (_ || _)=true;kernel_rfl)|(show (_ && _)=true;kernel_rfl))
 exact⟨_,rfl⟩
theorem extU:ExtOk Tryd.prog polU:=by
 intro f g hg args H r H' h
 by_cases e:f=28
 ·subst e
  have:polU.ext 28=some ext44:=rfl
  rw[this]at hg
  obtain rfl:=Option.some.inj hg
  exact zIG h
 by_cases e1:f=10
 ·subst e1
  have:polU.ext 10=some (call Tryd.prog pol1 10):=rfl
  rw[this]at hg
  obtain rfl:=Option.some.inj hg
  exact ok1.1 10 args H r H' (by decide) h
 by_cases e2:f=15
 ·subst e2
  have:polU.ext 15=some (call Tryd.prog pol1 15):=rfl
  rw[this]at hg
  obtain rfl:=Option.some.inj hg
  exact ok1.1 15 args H r H' (by decide) h
 by_cases e3:f=21
 ·subst e3
  have:polU.ext 21=none:=rfl
  rw[this]at hg
  cases hg
 have:polU.ext f=pol0.ext f:=by
  show (if f=28 then some ext44 else if f=21 then none else if f=10 then some (call Tryd.prog pol1 10) else if f=15 then some (call Tryd.prog pol1 15) else pol0.ext f)=_
  rw[if_neg e,if_neg e3,if_neg e1,if_neg e2]
 rw[this]at hg
 exact ext0 f g hg args H r H' h
theorem okU:CfOk Tryd.prog (call Tryd.prog polU):=zIQ extU zAc
end
end Go.Ev
namespace Go.Ev
open Go.Proofs Go.RowKit Go.IntWalk
set_option maxRecDepth 100000
noncomputable def polL (l:List Nat):Pol:={ pol1 with pure:=fun f=>!(5::(l++notPure)).contains f,ext:=fun f=>if f=5 then some (call Tryd.prog polU 5) else if l.contains f=true then some (call Tryd.prog pol1 f) else pol1.ext f }
theorem zHG {l:List Nat} {f:Nat} (h:l.contains f=true) (h05:f≠5):(polL l).ext f=some (call Tryd.prog pol1 f):=by
 show (if f=5 then some (call Tryd.prog polU 5) else if l.contains f=true then some (call Tryd.prog pol1 f) else pol1.ext f)=_
 rw[if_neg h05,if_pos h]
theorem extL {l:List Nat} (hy:l.contains yldF=false):ExtOk Tryd.prog (polL l):=by
 intro f g hg args H r H' h
 by_cases e:f=5
 ·subst e
  have:(polL l).ext 5=some (call Tryd.prog polU 5):=rfl
  rw[this]at hg
  obtain rfl:=Option.some.inj hg
  exact okU.1 5 args H r H' (by decide) h
 by_cases e1:l.contains f=true
 ·rw[zHG e1 e]at hg
  obtain rfl:=Option.some.inj hg
  exact ok1.1 f args H r H' (fun e2=>by rw[e2,hy]at e1;cases e1) h
 have:(polL l).ext f=pol1.ext f:=by
  show (if f=5 then some (call Tryd.prog polU 5) else if l.contains f=true then some (call Tryd.prog pol1 f) else pol1.ext f)=_
  rw[if_neg e,if_neg e1]
 rw[this]at hg
 exact ext1 f g hg args H r H' h
theorem okL {l:List Nat} (hy:l.contains yldF=false):CfOk Tryd.prog (call Tryd.prog (polL l)):=zIQ (extL hy) zAc
theorem l19 (l:List Nat) (H:List MB):call Tryd.prog (polL l) 5 [] H=some (.bool true,H):=by
 have hp:(polL l).pure 5=false:=by
  show (!(5::(l++notPure)).contains 5)=false
  simp
 have he:(polL l).ext 5=some (call Tryd.prog polU 5):=rfl
 rw[zAw]
 unfold evStep evBody
 rw[if_neg (by rw[hp];decide),if_neg (by decide)]
 simp only[he]
 exact u19 H
theorem zMG {l:List Nat} (hy:l.contains yldF=false) (f:Nat) (h05:f≠5) (hf:l.contains f=true) {args:List AV} {H H':List MB} {r:AV} (h:call Tryd.prog pol1 f args H=some (r,H')):call Tryd.prog (polL l) f args H=some (r,H'):=by
 have hp:(polL l).pure f=false:=by
  show (!(5::(l++notPure)).contains f)=false
  have:f∈l:=by simpa using hf
  simp[this]
 rw[zAw]
 unfold evStep evBody
 rw[if_neg (by rw[hp];decide),if_neg (fun e2=>by rw[e2,hy]at hf;cases hf)]
 simp only[zHG hf h05]
 exact h
end Go.Ev
namespace Go.Ev
attribute [local go_sem] evBuild splice List.length_append List.map_append tySzE List.head?_drop Nat.mul_one zAN zAQ zAL zAO zAP zAU
section
attribute [local go_sem] evAppend
open Go.Proofs Go.RowKit Go.IntWalk
set_option maxRecDepth 100000
set_option maxHeartbeats 16000000
def markL (regs:List Int) (way:List Bool) (p:Int):List Int:=List.zipWith (fun r b=>if b then p else r) regs way
theorem f46 (regs:List Int) (way:List Bool) (p:Int) (h1:regs.length=18) (h2:way.length=18) (H:List MB):call Tryd.prog pol1 30 [.agg (regs.map I),.agg (way.map AV.bool),I p] H=some (.agg ((markL regs way p).map I),H):=by
 have t1:List.take 18 (regs.map I)=regs.map I:=List.take_of_length_le (by simp[h1])
 have t2:=zDL way h2
 have o1:(regs.map I).all AV.ok=true:=by simp[AV.ok]
 have o2:=zAj way
 refine zAS Tryd.func30 rfl rfl rfl rfl rfl rfl (fun _=>rfl) (by simp[AV.plain,AV.plainL,zAF,zAu]) (by simp[AV.plain,zAF]) ?_ H
 simp +contextual (disch:=omega) only[Tryd.f30,dd30,go_sem,simprocAttr,mu30,↓zAE,↓zAC,↓zAB,↓zAA,t1,t2,o1,o2,h1,h2]
 have hml:(markL regs way p).length=18:=by simp[markL,h1,h2]
 let cur:Nat→List Int:=fun i=>(markL regs way p).take i++regs.drop i
 have hcl:∀ i,i≤18→(cur i).length=18:=fun i hi=>by simp[cur,hml,h1];omega
 have hc0:cur 0=regs:=by simp[cur]
 have hcN:cur 18=markL regs way p:=by simp[cur,List.take_of_length_le,hml,List.drop_of_length_le,h1]
 have hstep:∀ i r b,i < 18→regs[i]?=some r→way[i]?=some b→cur (i+1)=(cur i).set i (if b then p else r):=fun i r b hi hr hb=>by
  apply List.ext_getElem?
  intro q
  have hg:∀ j q,j≤18→(cur j)[q]?=if q < j then(markL regs way p)[q]? else regs[q]?:=fun j q hj=>by
   simp only[cur]
   by_cases hq:q < j
   ·rw[if_pos hq,List.getElem?_append_left (by simp[hml];omega),List.getElem?_take,if_pos hq]
   ·rw[if_neg hq,List.getElem?_append_right (by simp[hml];omega)]
    simp[hml,List.getElem?_drop]
    congr 1;omega
  by_cases e:i=q
  ·subst e
   rw[List.getElem?_set_self (by rw[hcl i (by omega)];exact hi),hg _ _ (by omega),if_pos (Nat.lt_succ_self _)]
   simp[markL,List.getElem?_zipWith,hr,hb]
  ·rw[List.getElem?_set_ne e,hg _ _ (by omega),hg _ _ (by omega)]
   by_cases hq:q < i
   ·rw[if_pos (by omega),if_pos hq]
   ·rw[if_neg (by omega),if_neg hq]
 rw[← hc0]at t1 o1
 refine zAY (M:=(mskOf (pol1.mask 30) (pol1.gc 30) (pol1.acts 30) 0 2)) (by rfl) 18 (fun i=>(⟨20,[(10,NV i),(9,.agg (way.map AV.bool)),(6,.rf 2 1 0 0),(3,.rf 0 1 0 0),(2,I p)],[.row 18 [.agg ((cur i).map I)] 0,.row 18 [.agg (way.map AV.bool)] 0,.row 18 [.agg [I 0,I 0,I 0,I 0,I 0,I 0,I 0,I 0,I 0,I 0,I 0,I 0,I 0,I 0,I 0,I 0,I 0,I 0]] 0]⟩:St)) (fun _=>True) ?_ ?_ trivial _ ?_
 ·intro i hi _
  obtain⟨b,hb⟩:∃ b,way[i]?=some b:=⟨_,List.getElem?_eq_getElem (by omega)⟩
  obtain⟨r,hr⟩:∃ b,regs[i]?=some b:=⟨_,List.getElem?_eq_getElem (by omega)⟩
  have hb':(way.map AV.bool)[i]?=some (.bool b):=by simp[hb]
  have hlt:((i:Int) < 18)=True:=eq_true (by omega)
  have hwi:IntKind.i64.wrap ((i:Int)+1)=((i+1:Nat):Int):=by rw[i64_in]<;>omega
  have hcl1:=hcl i (by omega)
  have hev:evIndex Tryd.prog 82 (.agg (way.map AV.bool)) (NV i)=some (.bool b):=by
   have e4:tySz Tryd.prog 4=some 1:=by kernel_rfl
   have a4:tyAgg Tryd.prog 4=some false:=by kernel_rfl
   have hi3:(i:Int) < 18:=by omega
   unfold evIndex
   simp[ty82,e4,a4,hb,h2,hi,hi3,evPart]
   exact(List.getElem?_eq_some_iff.1 hb).2
  have hts:List.take 18 ((cur i).map I)=(cur i).map I:=List.take_of_length_le (by simp[hcl1])
  have hso:(((cur i).map I).set i (I p)).length=18:=by simp[hcl1]
  cases b with
  | true=>
    simp +contextual (disch:=omega) only[Tryd.f30,dd30,go_sem,simprocAttr,mu30,↓zAE,↓zAC,↓zAB,↓zAA,hb',hlt,hwi,zAR,h2,hcl1,hev]
    rw[hstep i r true hi hr hb,if_pos rfl,List.map_set,List.set_eq_take_append_cons_drop,if_pos (by simp[hcl1];omega)]
    rfl
  | false=>
    simp +contextual (disch:=omega) only[Tryd.f30,dd30,go_sem,simprocAttr,mu30,↓zAE,↓zAC,↓zAB,↓zAA,hb',hlt,hwi,zAR,h2,hcl1,hev]
    have hce:cur (i+1)=cur i:=by
     rw[hstep i r false hi hr hb]
     have hci:(cur i)[i]?=some r:=by
      simp only[cur]
      rw[List.getElem?_append_right (by simp[hml];omega)]
      simp[hml,List.getElem?_drop,Nat.min_eq_left (Nat.le_of_lt hi),hr]
     apply List.ext_getElem?
     intro q
     by_cases e:i=q
     ·subst e;rw[List.getElem?_set_self (by rw[hcl1];exact hi),hci];rfl
     ·rw[List.getElem?_set_ne e]
    rw[hce]
    rfl
 ·intro _
  have hcl1:=hcl 18 (by omega)
  have hts:List.take 18 ((cur 18).map I)=(cur 18).map I:=List.take_of_length_le (by simp[hcl1])
  have hok:((cur 18).map I).all AV.ok=true:=by simp[AV.ok]
  simp +contextual (disch:=omega) only[Tryd.f30,dd30,go_sem,simprocAttr,mu30,↓zAE,↓zAC,↓zAB,↓zAA,hcl1,hts,hok]
  rw[hcN]
  exact⟨_,zBC _ (by simp[AV.plain,zAF])⟩
 ·rw[← hc0]
  simp only[hc0]
  rfl
end
structure Way where
 pc:Nat
 at_:Nat
 regs:List Int
inductive Out where
 | done
 | ways (l:List Way)
structure Prog1 where
 ins:Nat→Option Ins
 has:List (Int×Int)→Nat→Bool
 holds:Int→Nat→Bool
def stepW (p:Prog1) (w:Way):Out:=
 match p.ins w.pc with
 | none=>.ways []
 | some i=>
   if i.op=0 then .done
   else if i.op=1 then(if p.has i.set w.at_ then .ways [⟨w.pc+1,w.at_+1,w.regs⟩] else .ways [])
   else if i.op=2 then .ways [⟨i.x.toNat,w.at_,w.regs⟩,⟨i.y.toNat,w.at_,w.regs⟩]
   else if i.op=3 then .ways [⟨i.x.toNat,w.at_,w.regs⟩]
   else if i.op=4 then .ways [⟨w.pc+1,w.at_,w.regs.set i.n.toNat w.at_⟩]
   else(if p.holds i.n w.at_ then .ways [⟨w.pc+1,w.at_,w.regs⟩] else .ways [])
def runW (p:Prog1) (most:Int):Nat→List Way→List Way→Option (List Way)
 | fuel,todo,out=>
   match todo with
   | []=>some out
   | w::rest=>
     if(out.length:Int)=most then some out
     else
      match fuel with
      | 0=>none
      | fuel+1=>
        match stepW p w with
        | .done=>runW p most fuel rest (out++[w])
        | .ways l=>runW p most fuel (l++rest) out
def Way.like (a b:Way):Prop:=a.pc=b.pc∧a.at_=b.at_
def likeL:List Way→List Way→Prop
 | [],[]=>True
 | a::l,b::m=>a.like b∧likeL l m
 | _,_=>False
theorem zER:∀ {a b c d:List Way},likeL a b→likeL c d→likeL (a++c) (b++d)
 | [],[],_,_,_,h=>h
 | _::_,_::_,_,_,h1,h2=>⟨h1.1,zER h1.2 h2⟩
 | [],_::_,_,_,h,_=>h.elim
 | _::_,[],_,_,h,_=>h.elim
def likeO:Out→Out→Prop
 | .done,.done=>True
 | .ways l,.ways m=>likeL l m
 | _,_=>False
theorem zD5 (p:Prog1) {a b:Way} (h:a.like b):likeO (stepW p a) (stepW p b):=by
 obtain⟨h1,h2⟩:=h
 unfold stepW
 rw[h1,h2]
 cases p.ins b.pc with
 | none=>exact trivial
 | some i=>
   simp only[]
   repeat' split
   all_goals first|exact trivial|exact⟨⟨rfl,rfl⟩,trivial⟩|exact⟨⟨rfl,rfl⟩,⟨rfl,rfl⟩,trivial⟩
inductive Reach (p:Prog1):Way→Way→List Way→Nat→Nat→Prop where
 | refl (w:Way):Reach p w w [] 0 0
 | on {w0 w w':Way} {E l:List Way} {d m:Nat} (h:Reach p w0 w E d m) (hs:stepW p w=.ways (w'::l)):Reach p w0 w' (l++E) d (m+1)
 | pop {w0 w e:Way} {E:List Way} {d m:Nat} (h:Reach p w0 w (e::E) d m) (hs:stepW p w=.ways []):Reach p w0 e E d (m+1)
 | found {w0 w e:Way} {E:List Way} {d m:Nat} (h:Reach p w0 w (e::E) d m) (hs:stepW p w=.done):Reach p w0 e E (d+1) (m+1)
theorem Reach.like {p:Prog1} {w0 w:Way} {E:List Way} {d m:Nat} (h:Reach p w0 w E d m) {v0:Way} (hv:w0.like v0):∃ v F,w.like v∧likeL E F∧Reach p v0 v F d m:=by
 induction h with
 | refl=>exact⟨v0,[],hv,trivial,.refl v0⟩
 | on h hs ih=>
   obtain⟨v,F,h1,h2,h3⟩:=ih
   have h4:=zD5 p h1
   rw[hs]at h4
   cases hq:stepW p v with
   | done=>rw[hq]at h4;exact h4.elim
   | ways l2=>
     rw[hq]at h4
     cases l2 with
     | nil=>exact h4.elim
     | cons a l2=>exact⟨a,l2++F,h4.1,zER h4.2 h2,.on h3 hq⟩
 | pop h hs ih=>
   obtain⟨v,F,h1,h2,h3⟩:=ih
   have h4:=zD5 p h1
   rw[hs]at h4
   cases hq:stepW p v with
   | done=>rw[hq]at h4;exact h4.elim
   | ways l2=>
     rw[hq]at h4
     cases l2 with
     | nil=>
       cases F with
       | nil=>exact h2.elim
       | cons f F=>exact⟨f,F,h2.1,h2.2,.pop h3 hq⟩
     | cons a l2=>exact h4.elim
 | found h hs ih=>
   obtain⟨v,F,h1,h2,h3⟩:=ih
   have h4:=zD5 p h1
   rw[hs]at h4
   cases hq:stepW p v with
   | done=>
     cases F with
     | nil=>exact h2.elim
     | cons f F=>exact⟨f,F,h2.1,h2.2,.found h3 hq⟩
   | ways l2=>rw[hq]at h4;exact h4.elim
theorem zBv {p:Prog1} {most:Int} {fuel:Nat} {w:Way} {rest out:List Way} (h:¬ (out.length:Int)=most) :
  runW p most (fuel+1) (w::rest) out=match stepW p w with
   | .done=>runW p most fuel rest (out++[w])
   | .ways l=>runW p most fuel (l++rest) out:=by
 conv=>lhs;unfold runW
 simp only[h,if_false]
theorem zDj {p:Prog1} {most:Int} {w:Way} {rest out:List Way} (h:¬ (out.length:Int)=most):runW p most 0 (w::rest) out=none:=by
 unfold runW
 simp only[h,if_false]
theorem Reach.run {p:Prog1} {most:Int} {w0 w:Way} {E:List Way} {d m:Nat} (h:Reach p w0 w E d m) (S out:List Way) (hm:most = -1∨(d=0∧¬ (out.length:Int)=most)) (fuel:Nat) :
  ∃ out',out'.length=out.length+d∧runW p most (m+fuel) (w0::S) out=runW p most fuel (w::(E++S)) out':=by
 induction h generalizing fuel with
 | refl=>exact⟨out,rfl,by rw[Nat.zero_add];rfl⟩
 | @on w w' E l d m h hs ih=>
   obtain⟨out',h1,h2⟩:=ih hm (fuel+1)
   refine⟨out',h1,?_⟩
   rw[show m+1+fuel=m+(fuel+1) by omega,h2,zBv (by rcases hm with h|⟨h,h'⟩<;>omega),hs]
   simp only[List.cons_append,List.append_assoc]
 | @pop w e E d m h hs ih=>
   obtain⟨out',h1,h2⟩:=ih hm (fuel+1)
   refine⟨out',h1,?_⟩
   rw[show m+1+fuel=m+(fuel+1) by omega,h2,zBv (by rcases hm with h|⟨h,h'⟩<;>omega),hs]
   rfl
 | @found w e E d m h hs ih=>
   rcases hm with hm|hm
   ·obtain⟨out',h1,h2⟩:=ih (.inl hm) (fuel+1)
    refine⟨out'++[w],by simp;omega,?_⟩
    rw[show m+1+fuel=m+(fuel+1) by omega,h2,zBv (by omega),hs]
    rfl
   ·omega
theorem Reach.short {p:Prog1} {most:Int} {w0 w:Way} {E:List Way} {d m:Nat} (h:Reach p w0 w E d m) (S out:List Way) (hm:most = -1∨(d=0∧¬ (out.length:Int)=most)) (fuel:Nat) (hf:fuel < m) :
  runW p most fuel (w0::S) out=none:=by
 induction h generalizing fuel with
 | refl=>omega
 | @on w w' E l d m h hs ih=>
   rcases Nat.lt_or_ge fuel m with h1|h1
   ·exact ih hm fuel h1
   ·obtain rfl:fuel=m:=by omega
    obtain⟨out',h2,h3⟩:=h.run S out hm 0
    rw[Nat.add_zero]at h3
    rw[h3,zDj (by rcases hm with h|⟨h,h'⟩<;>omega)]
 | @pop w e E d m h hs ih=>
   rcases Nat.lt_or_ge fuel m with h1|h1
   ·exact ih hm fuel h1
   ·obtain rfl:fuel=m:=by omega
    obtain⟨out',h2,h3⟩:=h.run S out hm 0
    rw[Nat.add_zero]at h3
    rw[h3,zDj (by rcases hm with h|⟨h,h'⟩<;>omega)]
 | @found w e E d m h hs ih=>
   rcases hm with hm|hm
   ·rcases Nat.lt_or_ge fuel m with h1|h1
    ·exact ih (.inl hm) fuel h1
    ·obtain rfl:fuel=m:=by omega
     obtain⟨out',h2,h3⟩:=h.run S out (.inl hm) 0
     rw[Nat.add_zero]at h3
     rw[h3,zDj (by omega)]
   ·omega
theorem circle {p:Prog1} {most:Int} {w0 w:Way} {E:List Way} {d m:Nat} (h:Reach p w0 w E d (m+1)) (hl:w0.like w):∀(fuel:Nat) (v0:Way) (S out:List Way),w0.like v0→(most = -1∨(d=0∧¬ (out.length:Int)=most)) →
  runW p most fuel (v0::S) out=none:=by
 intro fuel
 induction fuel using Nat.strongRecOn with
 | ind fuel ih=>
   intro v0 S out hv hm
   obtain⟨v,F,h1,h2,h3⟩:=h.like hv
   rcases Nat.lt_or_ge fuel (m+1) with hf|hf
   ·exact h3.short S out hm fuel hf
   ·obtain⟨out',o1,o2⟩:=h3.run S out hm (fuel - (m+1))
    rw[show m+1+(fuel - (m+1))=fuel by omega]at o2
    rw[o2]
    refine ih _ (by omega) v (F++S) out' ⟨hl.1.trans h1.1,hl.2.trans h1.2⟩ ?_
    rcases hm with hm|⟨hm,hm'⟩
    ·exact .inl hm
    ·exact .inr ⟨hm,by omega⟩
end Go.Ev
