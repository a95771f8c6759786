/- What functions of the program compute; no further conditions. -/
import Derived.Test.YtjgmfjneajcbmaaGreatF17
set_option linter.unusedVariables false
set_option linter.unusedSimpArgs false
open List (all_append append_assoc getElem?_append_right getElem?_cons_succ getElem?_eq_getElem length_append length_cons length_map length_singleton map_append map_nil map_replicate map_set map_take mem_of_getElem? mem_singleton set_append_right set_cons_succ take_length take_succ_cons)
open Nat (add_assoc add_mul add_sub_cancel_left le_refl mul_le_mul_right sub_self succ_mul)
open Int (toNat_natCast)
open Go.Proofs Go.RowKit Go.IntWalk
set_option maxHeartbeats 8000000
set_option maxRecDepth 100000
namespace Go.Ev
attribute [local go_sem] evBin AV.cells AV.ok frzB Av BG bndO bnd evEq eqCells not_false_eq_true not_true_eq_false Af Array.size_empty tySzE List.head?_drop Nat.mul_one AR AY AP AS AT Ad
section
attribute [local go_sem] evAppend length_append map_append
theorem f114 (caps top:Int) (ht:top<=1114111):∀(N:Nat) (r:Re),r.wt<=N->r.wt<=1000000->∀ H,call Pg pol1 63 [reAV r,I caps,I top] H=some (.bool (wholeG caps top r),H)
 | 0,r,h,_,_=>by have:=r.wt_pos;omega
 | N+1,.mk op set kids mn mx md n neg,h,hN,H=>by
   have hkl:=Re.wtL_len kids;have hwt:1+set.length+Re.wtL kids=(Re.mk op set kids mn mx md n neg).wt:=by simp[Re.wt]
   have ih:=fun k (hk:k∈kids)=>f114 caps top ht N k (by have:=Re.wtL_mem hk;omega) (by have:=Re.wtL_mem hk;omega);have h135:=f135 caps top ht op set kids mn mx md n neg (by omega) (by omega);rw[show reAV (.mk op set kids mn mx md n neg)=.agg (nodeL op set kids mn mx md n neg) from congrArg AV.agg Bh];refine AX Tryz.func63 rfl rfl rfl rfl rfl rfl (fun _=>rfl) (by simp[AV.plain,AV.plainL,AF,AN]) rfl ?_ H;rw[wholeG];cases hfg:formedG caps top (.mk op set kids mn mx md n neg) with
   | false=>
     rw[hfg]at h135;simp +contextual (disch:=omega) only[Tryz.f63,dd63,go_sem,simprocAttr,mu63,↓AD,↓AC,↓AB,↓AA,h135];exact fzEq rfl rfl
   | true=>
     rw[hfg]at h135;simp +contextual (disch:=omega) only[Tryz.f63,dd63,go_sem,simprocAttr,mu63,↓AD,↓AC,↓AB,↓AA,h135];refine Ae (M:=(mskOf (pol1.mask 63) (pol1.gc 63) (pol1.acts 63) 0 4)) rfl kids.length (fun i=>(⟨29,[(7,I i),(3,.rf 0 1 0 0),(2,I top),(1,I caps)],[.row 8 [.agg (nodeL op set kids mn mx md n neg)] 0]⟩:St)) (fun i=>wholeL caps top (kids.take i)=true) ?_ ?_ (by simp[wholeL]) _ (by first|rfl|(refine Ar (n:=1) (m:=⟨some [7,3,2,1],some 1,[]⟩) rfl rfl ?_ ?_ ?_<;>first|rfl|(simp[keepT,AV.underL,AV.under,MB.under,AE,AH,AJ,AG,AF,AI,AK,-map_take,-map_replicate,-map_set,AN];done)|(simp[keepT,AV.underL,AV.under,MB.under,AE,AH,AJ,AG,AF,AI,AK,-map_take,-map_replicate,-map_set,AN];omega)))
     ·intro i hi hg;obtain⟨k,hk⟩:∃ k,kids[i]?=some k:=⟨_,getElem?_eq_getElem hi⟩;have ihk:=ih k (mem_of_getElem? hk);have hl8:=AM k;have ht8:=AU k;have e3:=Dm (caps:=caps) (top:=top) hk;cases hn:wholeG caps top k with
      | false=>
        rw[hn]at ihk;have hf:wholeL caps top kids=false:=by
         rw[Bool.eq_false_iff];intro hw;rw[ET]at hw;have:=hw k (mem_of_getElem? hk);rw[hn]at this;cases this
        rw[hf];simp +contextual (disch:=omega) only[Tryz.f63,dd63,go_sem,simprocAttr,mu63,↓AD,↓AC,↓AB,↓AA,hk,ihk,hl8,ht8];exact fzEq rfl rfl
      | true=>
        rw[hn]at ihk;rw[e3,hg,hn];simp +contextual (disch:=omega) only[Tryz.f63,dd63,go_sem,simprocAttr,mu63,↓AD,↓AC,↓AB,↓AA,hk,ihk,hl8,ht8];exact(by first|rfl|(refine Ar (n:=1) (m:=⟨some [7,3,2,1],some 1,[]⟩) rfl rfl ?_ ?_ ?_<;>first|rfl|(simp[keepT,AV.underL,AV.under,MB.under,AE,AH,AJ,AG,AF,AI,AK,-map_take,-map_replicate,-map_set,AN];done)|(simp[keepT,AV.underL,AV.under,MB.under,AE,AH,AJ,AG,AF,AI,AK,-map_take,-map_replicate,-map_set,AN];omega)))
     ·intro hg;rw[take_length]at hg;rw[hg];simp +contextual (disch:=omega) only[Tryz.f63,dd63,go_sem,simprocAttr,mu63,↓AD,↓AC,↓AB,↓AA];exact fzEq rfl rfl
theorem f52 (p:Pat) (hw:p.re.wt<=1000000) (H:List MB):call Pg pol1 29 [patAV p] H=some (I (validP p),H):=by
 obtain⟨re,caps,runes⟩:=p;simp only at hw;refine AX Tryz.func29 rfl rfl rfl rfl rfl rfl (fun _=>rfl) (by simp[AV.plainL,AV.plain];exact Aw _) rfl ?_ H;have hl8:=AM re;have hget8:(reC re++[I caps,.bool runes])[8]?=some (I caps):=by rw[getElem?_append_right (by omega),hl8];rfl
 have hget9:(reC re++[I caps,.bool runes])[9]?=some (.bool runes):=by rw[getElem?_append_right (by omega),hl8];rfl
 have htk8:∀ l,List.take 8 (reC re++l)=reC re:=fun l=>by
  rw[List.take_append_of_le_length (by omega)];exact List.take_of_length_le (by omega)
 have hall:=Au re;have h112:=f112 re.wt re (le_refl _) hw;have h113:=f113 re.wt re (le_refl _) hw;have h114:=f114 caps (topI runes) (JC runes) re.wt re (le_refl _) hw;have hsw:=re.size_wt;cases runes
 ·rw[show topI false=255 from rfl]at h114;by_cases h1:256<re.size
  ·rw[show validP ⟨re,caps,false⟩=4 from if_pos (.inl h1)];simp +contextual (disch:=omega) only[Tryz.f29,dd29,go_sem,simprocAttr,mu29,↓AD,↓AC,↓AB,↓AA,hl8,hget8,hget9,h112,h113,hall,htk8,all_append];repeat' (first|intro _|apply And.intro|(unfold dOk;kernel_rfl)|(show (_||_)=true;kernel_rfl)|(show (_&&_)=true;kernel_rfl))
   all_goals exact fzEq rfl rfl
  by_cases h2:24<re.depth
  ·rw[show validP ⟨re,caps,false⟩=4 from if_pos (.inr h2)];simp +contextual (disch:=omega) only[Tryz.f29,dd29,go_sem,simprocAttr,mu29,↓AD,↓AC,↓AB,↓AA,hl8,hget8,hget9,h112,h113,hall,htk8,all_append];repeat' (first|intro _|apply And.intro|(unfold dOk;kernel_rfl)|(show (_||_)=true;kernel_rfl)|(show (_&&_)=true;kernel_rfl))
   all_goals exact fzEq rfl rfl
  have hno:¬ (256<re.size∨24<re.depth):=by omega
  have hcp:(caps<0)∨(¬ caps<0/\9<caps)∨(¬ caps<0/\¬ 9<caps):=by omega
  rcases hcp with h3|⟨h3,h4⟩|⟨h3,h4⟩
  ·rw[show validP ⟨re,caps,false⟩=1 from(if_neg hno).trans (if_pos (.inl h3))];simp +contextual (disch:=omega) only[Tryz.f29,dd29,go_sem,simprocAttr,mu29,↓AD,↓AC,↓AB,↓AA,hl8,hget8,hget9,h112,h113,hall,htk8,all_append];repeat' (first|intro _|apply And.intro|(unfold dOk;kernel_rfl)|(show (_||_)=true;kernel_rfl)|(show (_&&_)=true;kernel_rfl))
   all_goals exact fzEq rfl rfl
  ·rw[show validP ⟨re,caps,false⟩=1 from(if_neg hno).trans (if_pos (.inr (.inl h4)))];simp +contextual (disch:=omega) only[Tryz.f29,dd29,go_sem,simprocAttr,mu29,↓AD,↓AC,↓AB,↓AA,hl8,hget8,hget9,h112,h113,hall,htk8,all_append];repeat' (first|intro _|apply And.intro|(unfold dOk;kernel_rfl)|(show (_||_)=true;kernel_rfl)|(show (_&&_)=true;kernel_rfl))
   all_goals exact fzEq rfl rfl
  ·cases hwg:wholeG caps 255 re with
   | true=>
     rw[hwg]at h114;rw[show validP ⟨re,caps,false⟩=0 from(if_neg hno).trans (if_neg (by simp only[topI,Bool.false_eq_true,if_false,if_true,hwg];simp;omega))];simp +contextual (disch:=omega) only[Tryz.f29,dd29,go_sem,simprocAttr,mu29,↓AD,↓AC,↓AB,↓AA,hl8,hget8,hget9,h112,h113,h114,hall,htk8,all_append];repeat' (first|intro _|apply And.intro|(unfold dOk;kernel_rfl)|(show (_||_)=true;kernel_rfl)|(show (_&&_)=true;kernel_rfl))
     all_goals exact fzEq rfl rfl
   | false=>
     rw[hwg]at h114;rw[show validP ⟨re,caps,false⟩=1 from(if_neg hno).trans (if_pos (.inr (.inr hwg)))];simp +contextual (disch:=omega) only[Tryz.f29,dd29,go_sem,simprocAttr,mu29,↓AD,↓AC,↓AB,↓AA,hl8,hget8,hget9,h112,h113,h114,hall,htk8,all_append];repeat' (first|intro _|apply And.intro|(unfold dOk;kernel_rfl)|(show (_||_)=true;kernel_rfl)|(show (_&&_)=true;kernel_rfl))
     all_goals exact fzEq rfl rfl
 ·rw[show topI true=1114111 from rfl]at h114;by_cases h1:256<re.size
  ·rw[show validP ⟨re,caps,true⟩=4 from if_pos (.inl h1)];simp +contextual (disch:=omega) only[Tryz.f29,dd29,go_sem,simprocAttr,mu29,↓AD,↓AC,↓AB,↓AA,hl8,hget8,hget9,h112,h113,hall,htk8,all_append];repeat' (first|intro _|apply And.intro|(unfold dOk;kernel_rfl)|(show (_||_)=true;kernel_rfl)|(show (_&&_)=true;kernel_rfl))
   all_goals exact fzEq rfl rfl
  by_cases h2:24<re.depth
  ·rw[show validP ⟨re,caps,true⟩=4 from if_pos (.inr h2)];simp +contextual (disch:=omega) only[Tryz.f29,dd29,go_sem,simprocAttr,mu29,↓AD,↓AC,↓AB,↓AA,hl8,hget8,hget9,h112,h113,hall,htk8,all_append];repeat' (first|intro _|apply And.intro|(unfold dOk;kernel_rfl)|(show (_||_)=true;kernel_rfl)|(show (_&&_)=true;kernel_rfl))
   all_goals exact fzEq rfl rfl
  have hno:¬ (256<re.size∨24<re.depth):=by omega
  have hcp:(caps<0)∨(¬ caps<0/\9<caps)∨(¬ caps<0/\¬ 9<caps):=by omega
  rcases hcp with h3|⟨h3,h4⟩|⟨h3,h4⟩
  ·rw[show validP ⟨re,caps,true⟩=1 from(if_neg hno).trans (if_pos (.inl h3))];simp +contextual (disch:=omega) only[Tryz.f29,dd29,go_sem,simprocAttr,mu29,↓AD,↓AC,↓AB,↓AA,hl8,hget8,hget9,h112,h113,hall,htk8,all_append];repeat' (first|intro _|apply And.intro|(unfold dOk;kernel_rfl)|(show (_||_)=true;kernel_rfl)|(show (_&&_)=true;kernel_rfl))
   all_goals exact fzEq rfl rfl
  ·rw[show validP ⟨re,caps,true⟩=1 from(if_neg hno).trans (if_pos (.inr (.inl h4)))];simp +contextual (disch:=omega) only[Tryz.f29,dd29,go_sem,simprocAttr,mu29,↓AD,↓AC,↓AB,↓AA,hl8,hget8,hget9,h112,h113,hall,htk8,all_append];repeat' (first|intro _|apply And.intro|(unfold dOk;kernel_rfl)|(show (_||_)=true;kernel_rfl)|(show (_&&_)=true;kernel_rfl))
   all_goals exact fzEq rfl rfl
  ·cases hwg:wholeG caps 1114111 re with
   | true=>
     rw[hwg]at h114;rw[show validP ⟨re,caps,true⟩=0 from(if_neg hno).trans (if_neg (by simp only[topI,Bool.false_eq_true,if_false,if_true,hwg];simp;omega))];simp +contextual (disch:=omega) only[Tryz.f29,dd29,go_sem,simprocAttr,mu29,↓AD,↓AC,↓AB,↓AA,hl8,hget8,hget9,h112,h113,h114,hall,htk8,all_append];repeat' (first|intro _|apply And.intro|(unfold dOk;kernel_rfl)|(show (_||_)=true;kernel_rfl)|(show (_&&_)=true;kernel_rfl))
     all_goals exact fzEq rfl rfl
   | false=>
     rw[hwg]at h114;rw[show validP ⟨re,caps,true⟩=1 from(if_neg hno).trans (if_pos (.inr (.inr hwg)))];simp +contextual (disch:=omega) only[Tryz.f29,dd29,go_sem,simprocAttr,mu29,↓AD,↓AC,↓AB,↓AA,hl8,hget8,hget9,h112,h113,h114,hall,htk8,all_append];repeat' (first|intro _|apply And.intro|(unfold dOk;kernel_rfl)|(show (_||_)=true;kernel_rfl)|(show (_&&_)=true;kernel_rfl))
     all_goals exact fzEq rfl rfl
end
section
attribute [local go_sem] length_append map_append
def compP (p:Pat):Prg×Int:=
 if validP p=0 then
  if compG [] p.re=true then
   if lenG p.re+1<=8192 then(⟨codeG p.re 0++[⟨0,0,0,0,[]⟩],p.caps,p.runes⟩,0) else(⟨[],0,false⟩,4)
  else(⟨[],0,false⟩,10)
 else(⟨[],0,false⟩,validP p)
theorem CK {p:Pat} (h:validP p=0):p.re.size<=256/\p.re.depth<=24/\0<=p.caps/\p.caps<=9/\wholeG p.caps (topI p.runes) p.re=true:=by
 unfold validP at h;split at h
 ·cases h
 ·split at h
  ·cases h
  ·rename_i h1 h2;cases hw:wholeG p.caps (topI p.runes) p.re with
   | true=>exact⟨by omega,by omega,by omega,by omega,rfl⟩
   | false=>exact absurd (.inr (.inr hw)) h2
theorem f53n (caps top:Int) (r:Re) (hN:r.wt<=1000000) (hw:wholeG caps top r=true) (H:List MB):call Pg pol1 28 [reAV r,.sl true []] H=some (.bool (compG [] r),H):=by
 rw[<- f53 caps top r.wt r [] (le_refl _) hN (by simp;omega) hw H];refine Nc rfl ?_ (by simp[AV.plain,AV.plainL,AZ]);have hby:∀ i,pol1.byref 28 i=false:=fun i=>rfl;have hz:fz (reAV r) H=some (reAV r,H):=Az _ (by simp[AV.plain,AZ]);have h2:fz (.sl true []) H=some (.sl false [],H):=rfl;simp only[frzArgs,hby,Bool.false_eq_true,if_false,hz,h2,map_nil]
theorem QC {H:List MB}{id n:Nat}{els:List AV}{c:List Ins} (caps:Int) (runes:Bool) (hl:els.length=n) (hk:∀ j H,fzL j els H=some (c.map insAV,H)) (hr:getRow H id=some (5,els,0)) :
  ∃ H',fz (.tup [.agg [.ms id 5 n 0 n,I caps,.bool runes],I 0]) H=some (.tup [prgAV ⟨c,caps,runes⟩,I 0],H'):=by
 have h2:fzA (fzJ 6) (.ms id 5 n 0 n) H=some (.sl false (c.map insAV),mark H id n):=by
  have:=JY (n:=5) (off:=0) (len:=n) (ys:=c.map insAV) (H':=mark H id (0+n)) hr hl (by omega) (by rw[List.drop_zero,List.take_of_length_le (by omega)];exact hk _ _)
  rwa [Nat.zero_add]at this
 refine⟨mark H id n,?_⟩;simp only[fz,JX,JZ,fzL,h2,GW];rfl
end
section
attribute [local go_sem] length_append
theorem LH {H:List MB}{i n z:Nat}{els:List AV}{y:AV}{t:Bool} (hi:getRow H i=some (5,els,z)) (hn:els.length=n) (hy:(decide (y.cells.length=5)&&y.cells.all AV.ok)=true) (hz:z<=n) (hr:n+1<=4000000000) :
  evAppend Pg H 46 46 (.ms i 5 n 0 n) (.sl t [y])=some (.ms i 5 (n+1) 0 (n+1),H.set i (.row 5 (els++[y]) z)):=by
 have hs:srcElems Pg H 91 (.sl t [y])=some [y]:=rfl;rw[B6 (e:=91) (by kernel_rfl) (by kernel_rfl) (k:=5) (by kernel_rfl) (by_:=56) (by kernel_rfl) (ze:=.agg [I 0,I 0,I 0,I 0,.sl true []]) (by kernel_rfl) rfl (by omega) hs (by simp only[List.all_cons,List.all_nil,hy,Bool.and_true]) hi hn hz (Ad hr (by omega))];rfl
theorem HA:∀(n:Nat) (l m:List MB),keptOk n l (l++m)=true
 | _,[],_=>rfl
 | n,x::xs,m=>by simp[keptOk,MB.beq_refl,HA n xs m]
theorem Ai {α:Type} (K:List α) (b:α):(K++[b])[K.length]?=some b:=by simp
theorem Aq {α:Type} (K:List α) (b c:α):(K++[b]).set K.length c=K++[c]:=by simp
abbrev codeH (C:List Ins) (n:Nat) (R:List MB):List MB:=.row 1 [.ms 1 5 n 0 n] 0::.row 5 (C.map insAV) 0::R
theorem Fa {C C':List Ins}{n n' m:Nat}{R S:List MB} (hm:2<=m):keptOk m (codeH C n R) (codeH C' n' (R++S))=true:=by
 simp[keptOk,HA,MB.under,AV.underL,AV.under,AE _ _ (AI C')];omega
theorem f107 (a b c d:Int) (t:Bool) (s:List (Int×Int)) (C:List Ins) (n:Nat) (R:List MB) (hn:C.length=n) (hb:n<=1000000) :
  call Pg pol1 85 [.agg [I a,I b,I c,I d,.sl t (s.map spanAV)],.rf 0 1 0 0] (codeH C n R)=some (I n,codeH (C++[⟨a,b,c,d,s⟩]) (n+1) R):=by
 have fr:frzArgs pol1 85 0 [.agg [I a,I b,I c,I d,.sl t (s.map spanAV)],.rf 0 1 0 0] (codeH C n R)=some ([.agg [I a,I b,I c,I d,.sl false (s.map spanAV)],.rf 0 1 0 0],codeH C n R):=by
  have h0:pol1.byref 85 0=false:=rfl;have h1:pol1.byref 85 1=true:=rfl;have h2:∀ H,fzL (fzJ 6) (s.map spanAV) H=some (s.map spanAV,H):=fun H=>BO _ _ H (AF s);simp only[frzArgs,h0,h1,Bool.false_eq_true,if_false,if_true,fz,fzA,fzL,h2]
 refine AO (pol:=pol1) Tryz.func85 rfl rfl rfl rfl fr ?_;have hap:=fun X=>LH (H:=codeH C n (R++[X])) (i:=1) (n:=n) (t:=true) (y:=insAV ⟨a,b,c,d,s⟩) rfl (by rw[length_map];exact hn) rfl (Nat.zero_le _) (by omega);have hmp:C.map insAV++[insAV ⟨a,b,c,d,s⟩]=(C++[(⟨a,b,c,d,s⟩:Ins)]).map insAV:=by simp
 simp +contextual (disch:=omega) only[Tryz.f85,dd85,go_sem,simprocAttr,mu85,↓AD,↓AC,↓AB,↓AA,hap,Ai,Aq,hmp];refine Bt rfl rfl rfl (Fa (by simp)) (by simp)
end
section
attribute [local go_sem] evAppend length_append
theorem f109 (x y md:Int) (H:List MB):call Pg pol1 87 [I x,I y,I md] H=some (insAV (insSplit md x y),H):=by
 refine AX Tryz.func87 rfl rfl rfl rfl rfl rfl (fun _=>rfl) rfl (by simp[AV.plain,AV.plainL,AF]) ?_ H;by_cases h:md=1
 ·subst h;simp +contextual (disch:=omega) only[Tryz.f87,dd87,go_sem,simprocAttr,map_append,mu87,↓AD,↓AC,↓AB,↓AA];exact⟨_,rfl⟩
 ·rw[insSplit,if_neg h];simp +contextual (disch:=omega) only[Tryz.f87,dd87,go_sem,simprocAttr,map_append,mu87,↓AD,↓AC,↓AB,↓AA];exact⟨_,rfl⟩
theorem PA (l:List (Int×Int)) (hl:l.length<=1000000):(((l.map spanAV).all fun y=>decide (y.cells.length=2)&&y.cells.all AV.ok)=true/\roomFor (l.map spanAV).length 16=true/\AV.plainL (l.map spanAV)=true):=by
 refine⟨?_,Ad (by rw[length_map];omega) (by omega),AF l⟩;rw[List.all_eq_true];intro x hx;obtain⟨i,_,rfl⟩:=List.mem_map.1 hx;rfl
theorem f92 (l:List (Int×Int)) (hl:l.length<=1000000) (b:MB) (H:List MB):call Pg pol1 45 [.sl false (l.map spanAV)] (b::H)=some (.sl false (l.map spanAV),b::H):=by
 rw[Bk];unfold evStep;have hx:cloneExt 2 16 [.sl false (l.map spanAV)] (b::H)=some (.sl false (l.map spanAV),b::H):=by
  simp only[cloneExt,elemsOf];rw[if_pos (PA l hl)]
 rw[if_neg (show ¬ pol1.pure 45=true by decide)];exact hx
abbrev cS (K:List MB) (C:List Ins) (n:Nat):List MB:=codeH C n (.row 1 [.clo 85 [.rf 0 1 0 0]] 0::.row 1 [.clo 89 [.rf 2 1 0 0,.rf 3 1 0 0,.rf 5 1 0 0,.rf 4 1 0 0]] 0::.row 1 [.clo 86 [.rf 3 1 0 0,.rf 2 1 0 0,.rf 0 1 0 0]] 0::.row 1 [.clo 88 [.rf 2 1 0 0,.rf 3 1 0 0,.rf 0 1 0 0]] 0::K)
def Does111 (r:Re):Prop:=∀(K:List MB) (C:List Ins) (n:Nat),C.length=n->n+lenG r<=100000->lenG r<=8192 ->
 call Pg pol1 89 [.pt (reC r),.rf 2 1 0 0,.rf 3 1 0 0,.rf 5 1 0 0,.rf 4 1 0 0] (cS K C n)=some (.tup [],cS K (C++codeG r n) (n+lenG r))
def Does108 (r:Re):Prop:=∀(K:List MB) (C:List Ins) (n:Nat),C.length=n->n+lenG r<=100000->lenG r<=8192 ->
 call Pg pol1 86 [.pt (reC r),.rf 3 1 0 0,.rf 2 1 0 0,.rf 0 1 0 0] (cS K C n)=some (.tup [],cS K (C++codeG r n) (n+lenG r))
def Does110 (l:List Re):Prop:=∀(K:List MB) (C:List Ins) (n:Nat),C.length=n->n+lenL l+2*(l.length-1)<=100000->lenL l+2*(l.length-1)<=8192 ->
 call Pg pol1 88 [.sl false (l.map reAV),.rf 2 1 0 0,.rf 3 1 0 0,.rf 0 1 0 0] (cS K C n)=some (.tup [],cS K (C++codeAlt l n) (n+lenL l+2*(l.length-1)))
theorem QE (caps top:Int) (hcaps:caps<=1000):∀ r:Re,r.wt<=1000000->GoodC caps top r->(∀ op set kids mn mx md n neg,r=.mk op set kids mn mx md n neg->(op=4->Does108 r)/\(op=3->Does110 kids)/\∀ k∈kids,Does111 k)->Does111 r
 | .mk op set kids mn mx md n neg,hN,hw,hk=>by
   obtain⟨d108,d110,ih⟩:=hk _ _ _ _ _ _ _ _ rfl;intro K C m hC hb hl;have hkl:=Re.wtL_len kids;have hwt:1+set.length+Re.wtL kids=(Re.mk op set kids mn mx md n neg).wt:=by simp[Re.wt]
   have hop:=hw.op;have hlen:=BE caps top _ m hw;obtain⟨hwk,hkd,hrp,hnn,ho1,ho2⟩:=BC hw.whole;have hgk:=hw.kids;have hrc:(.pt (reC (.mk op set kids mn mx md n neg)):AV)=.pt (nodeL op set kids mn mx md n neg):=congrArg AV.pt Bh;have fr:∀ H,frzArgs pol1 89 0 [.pt (nodeL op set kids mn mx md n neg),.rf 2 1 0 0,.rf 3 1 0 0,.rf 5 1 0 0,.rf 4 1 0 0] H=some ([.pt (nodeL op set kids mn mx md n neg),.rf 2 1 0 0,.rf 3 1 0 0,.rf 5 1 0 0,.rf 4 1 0 0],H):=fun H=>
    AL _ _ _ (by simp[mixOk,show pol1.byref 89 1=true from rfl,show pol1.byref 89 2=true from rfl,show pol1.byref 89 3=true from rfl,show pol1.byref 89 4=true from rfl,AV.plain,AV.plainL,AF,AN])
   have h107:=f107;rw[hrc];refine AO (pol:=pol1) Tryz.func89 rfl rfl rfl rfl (fr _) ?_;have rt:∀ C' n',retPol pol1 89 (cS K C m) (.tup []) (cS K C' n')=some (.tup [],cS K C' n'):=fun C' n'=>
    Bt rfl rfl rfl (by have:=@Fa C C' m n' (cS K C m).length (.row 1 [.clo 85 [.rf 0 1 0 0]] 0::.row 1 [.clo 89 [.rf 2 1 0 0,.rf 3 1 0 0,.rf 5 1 0 0,.rf 4 1 0 0]] 0::.row 1 [.clo 86 [.rf 3 1 0 0,.rf 2 1 0 0,.rf 0 1 0 0]] 0::.row 1 [.clo 88 [.rf 2 1 0 0,.rf 3 1 0 0,.rf 0 1 0 0]] 0::K) [] (by simp);simpa using this) (by simp)
   rcases hop with rfl|rfl|rfl|rfl|rfl|rfl|rfl
   ·have hk0:kids=[]:=List.length_eq_zero_iff.1 (by simpa [kidsG] using hkd);subst hk0;have hc:codeG (.mk 0 set [] mn mx md n neg) m=[]:=by rw[codeG];rfl
    rw[<- hlen,hc,List.append_nil];simp +contextual (disch:=omega) only[Tryz.f89,dd89,go_sem,simprocAttr,mu89,↓AD,↓AC,↓AB,↓AA];exact rt C m
   ·have hc:codeG (.mk 1 set kids mn mx md n neg) m=[⟨1,0,0,0,set⟩]:=by rw[codeG];rfl
    have h1:=fun R=>f107 1 0 0 0 false set C m R hC (by omega);have h92:=f92 set (by omega);rw[<- hlen,hc];simp +contextual (disch:=omega) only[Tryz.f89,dd89,go_sem,simprocAttr,mu89,↓AD,↓AC,↓AB,↓AA,h1,h92];repeat' (first|intro _|apply And.intro|(unfold dOk;kernel_rfl)|(show (_||_)=true;kernel_rfl)|(show (_&&_)=true;kernel_rfl))
    exact rt _ _
   ·have hc:codeG (.mk 2 set kids mn mx md n neg) m=codeCat kids m:=by rw[codeG];rfl
    have hL:lenG (.mk 2 set kids mn mx md n neg)=lenL kids:=by rw[lenG];rfl
    rw[hL]at hl hb hlen |-;rw[hc]at hlen |-;simp +contextual (disch:=omega) only[Tryz.f89,dd89,go_sem,simprocAttr,mu89,↓AD,↓AC,↓AB,↓AA];refine Ae (M:=(mskOf (pol1.mask 89) (pol1.gc 89) (pol1.acts 89) 0 7)) rfl kids.length (fun i=>(⟨89,[(37,I i),(36,I kids.length),(2,.rf 3 1 0 0),(0,.pt (nodeL 2 set kids mn mx md n neg))],cS K (C++codeCat (kids.take i) m) (m+lenL (kids.take i))⟩:St)) (fun _=>True) ?_ ?_ trivial _ ?_
    ·intro i hi _;obtain⟨k,hk⟩:∃ k,kids[i]?=some k:=⟨_,getElem?_eq_getElem hi⟩;have hkm:=mem_of_getElem? hk;have hl8:=AM k;have ht8:=AU k;have e1:=ED hk;have e2:=Jj hk m;have e4:=FD kids (i+1);have hck:=D0 caps top (kids.take i) m (fun k h=>hgk k (List.mem_of_mem_take h));have h2:=ih k hkm K (C++codeCat (kids.take i) m) (m+lenL (kids.take i)) (by simp[hC,hck]) (by omega) (by omega);simp +contextual (disch:=omega) only[Tryz.f89,dd89,go_sem,simprocAttr,mu89,↓AD,↓AC,↓AB,↓AA,hk,h2,hl8,ht8];rw[e1,e2,<- append_assoc,<- add_assoc];repeat' (first|intro _|apply And.intro|(unfold dOk;kernel_rfl)|(show (_||_)=true;kernel_rfl)|(show (_&&_)=true;kernel_rfl))
     rfl
    ·intro _;rw[take_length];simp +contextual (disch:=omega) only[Tryz.f89,dd89,go_sem,simprocAttr,mu89,↓AD,↓AC,↓AB,↓AA];exact rt _ _
    ·skip
     simp[codeCat,lenL];rfl
   ·have hc:codeG (.mk 3 set kids mn mx md n neg) m=codeAlt kids m:=by rw[codeG];rfl
    have hL:lenG (.mk 3 set kids mn mx md n neg)=lenL kids+2*(kids.length-1):=by rw[lenG,if_neg (by omega),if_pos rfl]
    rw[hL]at hl hb hlen |-;rw[hc]at hlen |-;have h1:=d110 rfl K C m hC (by omega) hl;rw[add_assoc]at h1;simp +contextual (disch:=omega) only[Tryz.f89,dd89,go_sem,simprocAttr,mu89,↓AD,↓AC,↓AB,↓AA,h1];repeat' (first|intro _|apply And.intro|(unfold dOk;kernel_rfl)|(show (_||_)=true;kernel_rfl)|(show (_&&_)=true;kernel_rfl))
    exact rt _ _
   ·have h1:=d108 rfl K C m hC hb hl;rw[hrc]at h1;simp +contextual (disch:=omega) only[Tryz.f89,dd89,go_sem,simprocAttr,mu89,↓AD,↓AC,↓AB,↓AA,h1];repeat' (first|intro _|apply And.intro|(unfold dOk;kernel_rfl)|(show (_||_)=true;kernel_rfl)|(show (_&&_)=true;kernel_rfl))
    exact rt _ _
   ·obtain⟨k,rfl⟩:∃ k,kids=[k]:=List.length_eq_one_iff.1 (by simpa [kidsG] using hkd);have hn1:=hnn (.inl rfl);have hc:codeG (.mk 5 set [k] mn mx md n neg) m=[⟨4,0,0,2*n-2,[]⟩]++codeG k (m+1)++[⟨4,0,0,2*n-1,[]⟩]:=by rw[codeG];rfl
    have hL:lenG (.mk 5 set [k] mn mx md n neg)=1+lenG k+1:=by
     rw[lenG,if_neg (by omega),if_neg (by omega),if_pos rfl];simp[lenL];omega
    rw[hL]at hlen hl hb |-;have hl8:=AM k;have ht8:=AU k;have hk5:=BE caps top k (m+1) (hgk k (mem_singleton.2 rfl));have h1:=fun R=>f107 4 0 0 (2*n-2) true [] C m R hC (by omega);have h2:=ih k (mem_singleton.2 rfl) K (C++[⟨4,0,0,2*n-2,[]⟩]) (m+1) (by simp[hC]) (by omega) (by omega);have h3:=fun R=>f107 4 0 0 (2*n-1) true [] (C++[⟨4,0,0,2*n-2,[]⟩]++codeG k (m+1)) (m+1+lenG k) R (by simp[hC,hk5];omega) (by omega);have ha:C++([⟨4,0,0,2*n-2,[]⟩]++codeG k (m+1)++[⟨4,0,0,2*n-1,[]⟩])=C++[⟨4,0,0,2*n-2,[]⟩]++codeG k (m+1)++[⟨4,0,0,2*n-1,[]⟩]:=by simp
    have hm:m+(1+lenG k+1)=m+1+lenG k+1:=by omega
    rw[hc,ha,hm];simp only[map_nil]at h1 h3;generalize codeG k (m+1)=B at *;simp +contextual (disch:=omega) only[Tryz.f89,dd89,go_sem,simprocAttr,mu89,↓AD,↓AC,↓AB,↓AA,h1,h2,h3,hl8,ht8];repeat' (first|intro _|apply And.intro|(unfold dOk;kernel_rfl)|(show (_||_)=true;kernel_rfl)|(show (_&&_)=true;kernel_rfl))
    exact rt _ _
   ·have hc:codeG (.mk 11 set kids mn mx md n neg) m=[⟨5,0,0,n,[]⟩]:=by rw[codeG];rfl
    have h1:=fun R=>f107 5 0 0 n true [] C m R hC (by omega);simp only[map_nil]at h1;rw[<- hlen,hc];simp +contextual (disch:=omega) only[Tryz.f89,dd89,go_sem,simprocAttr,mu89,↓AD,↓AC,↓AB,↓AA,h1];repeat' (first|intro _|apply And.intro|(unfold dOk;kernel_rfl)|(show (_||_)=true;kernel_rfl)|(show (_&&_)=true;kernel_rfl))
    exact rt _ _
end
section
attribute [local go_sem] evAppend length_append map_append
theorem P7 (C:List Ins) (a b c d:Int) (t:Bool):∀(i:Nat) (H:List MB),fzs ((C.map insAV).set i (.agg [I a,I b,I c,I d,.sl t []])) H=some ((C.set i ⟨a,b,c,d,[]⟩).map insAV,H):=by
 have key:∀(C:List Ins) (i:Nat),KeepL (fzJ 6) ((C.map insAV).set i (.agg [I a,I b,I c,I d,.sl t []])) ((C.set i ⟨a,b,c,d,[]⟩).map insAV):=by
  intro C
  induction C with
  | nil=>intro i;exact .nil
  | cons x C ih=>
    intro i;cases i with
    | zero=>exact .cons (fun H=>rfl) (HB C)
    | succ i=>exact .cons (fun H=>EF _ _ H (by simp[AV.plain,AV.plainL,AF])) (ih i)
 intro i H;exact(key C i).fz H
def altM (e:Int):List Re->Nat->Nat->List Ins
 | [],_,_=>[]
 | k::ks,f,j=>if ks.length=0 then codeG k f else⟨2,(f+1:Nat),(f+lenG k+2:Nat),0,[]⟩::(codeG k (f+1)++(⟨3,if 0<j then e else 0,0,0,[]⟩::altM e ks (f+lenG k+2) (j-1)))
def altP:List Re->Nat->Nat->List Ins
 | k::ks,f,i+1=>⟨2,(f+1:Nat),(f+lenG k+2:Nat),0,[]⟩::(codeG k (f+1)++(⟨3,0,0,0,[]⟩::altP ks (f+lenG k+2) i))
 | _,_,_=>[]
def jumpsP:List Re->Nat->Nat->List Nat
 | k::ks,f,i+1=>(f+1+lenG k)::jumpsP ks (f+lenG k+2) i
 | _,_,_=>[]
theorem Fs (l:List Re) (f:Nat):altP l f 0=[]:=by cases l<;>rfl
theorem F2 (l:List Re) (f:Nat):jumpsP l f 0=[]:=by cases l<;>rfl
theorem I7:∀(l:List Re) (f i:Nat) (k:Re),l[i]?=some k->altP l f (i+1)=altP l f i++(⟨2,(f+lenL (l.take i)+2*i+1:Nat),(f+lenL (l.take i)+2*i+lenG k+2:Nat),0,[]⟩::(codeG k (f+lenL (l.take i)+2*i+1)++[⟨3,0,0,0,[]⟩]))
 | [],_,i,_,h=>by cases h
 | q::ks,f,0,k,h=>by
   simp only[List.getElem?_cons_zero,Option.some.injEq]at h;subst h;simp[altP,Fs,lenL]
 | q::ks,f,i+1,k,h=>by
   rw[getElem?_cons_succ]at h;have ih:=I7 ks (f+lenG q+2) i k h;have e1:f+lenG q+2+lenL (ks.take i)+2*i=f+lenL ((q::ks).take (i+1))+2*(i+1):=by rw[take_succ_cons,lenL];omega
   rw[e1]at ih;rw[altP,ih]
   conv=>rhs;rw[altP]
   simp
theorem F3:∀(l:List Re) (f i:Nat) (k:Re),l[i]?=some k->jumpsP l f (i+1)=jumpsP l f i++[f+lenL (l.take i)+2*i+1+lenG k]
 | [],_,i,_,h=>by cases h
 | q::ks,f,0,k,h=>by
   simp only[List.getElem?_cons_zero,Option.some.injEq]at h;subst h;simp[jumpsP,F2,lenL]
 | q::ks,f,i+1,k,h=>by
   rw[getElem?_cons_succ]at h;have ih:=F3 ks (f+lenG q+2) i k h;have e1:f+lenG q+2+lenL (ks.take i)+2*i=f+lenL ((q::ks).take (i+1))+2*(i+1):=by rw[take_succ_cons,lenL];omega
   rw[e1]at ih;rw[jumpsP,ih]
   conv=>rhs;rw[jumpsP]
   simp
theorem Ed:∀(l:List Re) (f i:Nat),i<=l.length->(jumpsP l f i).length=i
 | [],_,i,h=>by
   have:i=0:=by simpa using h
   subst this;rfl
 | q::ks,f,0,h=>rfl
 | q::ks,f,i+1,h=>by simp[jumpsP,Ed ks _ i (by simpa using h)]
theorem Hn (caps top:Int):∀(l:List Re) (f i:Nat),(∀ k∈l,GoodC caps top k)->i<=l.length->(altP l f i).length=lenL (l.take i)+2*i
 | [],_,i,_,h=>by
   have:i=0:=by simpa using h
   subst this;rfl
 | q::ks,f,0,hg,h=>rfl
 | q::ks,f,i+1,hg,h=>by
   simp only[altP,length_cons,length_append,Hn caps top ks _ i (fun k h=>hg k (List.mem_cons_of_mem _ h)) (by simpa using h),BE caps top q _ (hg q (List.mem_cons_self ..)),take_succ_cons,lenL];omega
theorem I8 (e:Int):∀(l:List Re) (f:Nat) (k:Re),l[l.length-1]?=some k->altM e l f 0=altP l f (l.length-1)++codeG k (f+lenL (l.take (l.length-1))+2*(l.length-1))
 | [],_,_,h=>by cases h
 | [q],f,k,h=>by
   simp at h;subst h;simp[altM,Fs,lenL]
 | q::q2::ks,f,k,h=>by
   have h2:(q2::ks)[(q2::ks).length-1]?=some k:=by simpa using h
   have ih:=I8 e (q2::ks) (f+lenG q+2) k h2;have e0:(q::q2::ks).length-1=((q2::ks).length-1)+1:=by simp
   have e1:f+lenG q+2+lenL ((q2::ks).take ((q2::ks).length-1))+2*((q2::ks).length-1)=f+lenL ((q::q2::ks).take ((q::q2::ks).length-1))+2*((q::q2::ks).length-1):=by
    rw[e0,take_succ_cons,lenL];omega
   rw[e1]at ih;rw[altM,if_neg (by simp),ih,e0,altP];simp
theorem LK (e:Int):∀(l:List Re) (f j:Nat),l.length<=j+1->e=(f+lenL l+2*(l.length-1):Nat)->altM e l f j=codeAlt l f
 | [],_,_,_,_=>rfl
 | k::ks,f,j,h,he=>by
   rw[altM,codeAlt];split
   ·rfl
   ·rename_i h0;have hj:0<j:=by simp at h;omega
    have e2:e=(f+lenG k+2+lenL ks+2*(ks.length-1):Nat):=by rw[he,lenL];simp only[length_cons];omega
    have e3:e=(f+lenL (k::ks)+2*ks.length:Nat):=by rw[he];simp only[length_cons];omega
    rw[if_pos hj,LK e ks (f+lenG k+2) (j-1) (by simp at h;omega) e2,<- e3]
theorem LJ (caps top e:Int):∀(l:List Re) (f j p:Nat),(∀ k∈l,GoodC caps top k)->(jumpsP l f (l.length-1))[j]?=some p->f<=p/\(altM e l f j)[p-f]?=some ⟨3,0,0,0,[]⟩/\(altM e l f j).set (p-f) ⟨3,e,0,0,[]⟩=altM e l f (j+1)
 | [],_,_,_,_,h=>by cases h
 | [q],f,j,p,_,h=>by simp[jumpsP]at h
 | q::q2::ks,f,j,p,hg,h=>by
   have hq:=BE caps top q (f+1) (hg q (List.mem_cons_self ..));rw[show (q::q2::ks).length-1=((q2::ks).length-1)+1 by simp,jumpsP]at h;cases j with
   | zero=>
     simp only[List.getElem?_cons_zero,Option.some.injEq]at h;subst h;have hp:f+1+lenG q-f=(codeG q (f+1)).length+1:=by omega
     refine⟨by omega,?_,?_⟩
     ·rw[altM,if_neg (by simp),hp,getElem?_cons_succ,getElem?_append_right (le_refl _),sub_self];rfl
     ·rw[altM,if_neg (by simp),hp,set_cons_succ,set_append_right _ _ (le_refl _),sub_self]
      conv=>rhs;rw[altM,if_neg (by simp)]
      rfl
   | succ j=>
     rw[getElem?_cons_succ]at h;obtain⟨h1,h2,h3⟩:=LJ caps top e (q2::ks) (f+lenG q+2) j p (fun k h=>hg k (List.mem_cons_of_mem _ h)) h;have hp:p-f=(codeG q (f+1)).length+((p-(f+lenG q+2))+1)+1:=by omega
     refine⟨by omega,?_,?_⟩
     ·rw[altM,if_neg (by simp),hp,getElem?_cons_succ,getElem?_append_right (by omega),add_sub_cancel_left,getElem?_cons_succ];exact h2
     ·rw[altM,if_neg (by simp),hp,set_cons_succ,set_append_right _ _ (by omega),add_sub_cancel_left,set_cons_succ]
      conv=>rhs;rw[altM,if_neg (by simp)]
      rw[show j+1-1=j from rfl,show j+1+1-1=j+1 from rfl,h3];simp
end
section
theorem QK {H:List MB}{i n z:Nat}{els:List AV}{x:Int}{t:Bool} (hi:getRow H i=some (1,els,z)) (hn:els.length=n) (hz:z<=n) (hr:n+1<=4000000000) :
  evAppend Pg H 22 22 (.ms i 1 n 0 n) (.sl t [I x])=some (.ms i 1 (n+1) 0 (n+1),H.set i (.row 1 (els++[I x]) z)):=by
 have hs:srcElems Pg H 3 (.sl t [I x])=some [I x]:=rfl;rw[B6 (e:=3) (by kernel_rfl) (by kernel_rfl) (k:=1) (by kernel_rfl) (by_:=8) (by kernel_rfl) (ze:=I 0) (by kernel_rfl) rfl (by omega) hs rfl hi hn hz (Ad hr (by omega))];rfl
theorem Hk {K:List MB}{C:List Ins}{m n:Nat}{els:List AV}{x:Int} (hn:els.length=n) (hr:n+1<=4000000000) :
  evAppend Pg (cS (K++[.row 1 els 0]) C m) 22 22 (.ms (K.length+1+1+1+1+1+1) 1 n 0 n) (.sl true [I x])=some (.ms (K.length+1+1+1+1+1+1) 1 (n+1) 0 (n+1),cS (K++[.row 1 (els++[I x]) 0]) C m):=by
 rw[QK (z:=0) (els:=els) (by simp[getRow]) hn (by omega) hr];simp
theorem JI {f:Nat}{K:List MB}{C:List Ins}{n:Nat} (C':List Ins) (n':Nat) (b:MB) (hk:pol1.keep f=false) (ho:pol1.own f=false):retPol pol1 f (cS K C n) (.tup []) (cS (K++[b]) C' n')=some (.tup [],cS K C' n'):=
 Bt hk ho rfl (Fa (C:=C) (C':=C') (n:=n) (n':=n') (R:=.row 1 [.clo 85 [.rf 0 1 0 0]] 0::.row 1 [.clo 89 [.rf 2 1 0 0,.rf 3 1 0 0,.rf 5 1 0 0,.rf 4 1 0 0]] 0::.row 1 [.clo 86 [.rf 3 1 0 0,.rf 2 1 0 0,.rf 0 1 0 0]] 0::.row 1 [.clo 88 [.rf 2 1 0 0,.rf 3 1 0 0,.rf 0 1 0 0]] 0::K) (S:=[b]) (by simp)) (by simp)
theorem QF (caps top:Int) (l:List Re) (hl2:2<=l.length) (hl3:l.length<=1000000) (hg:∀ k∈l,GoodC caps top k) (ih:∀ k∈l,Does111 k):Does110 l:=by
 intro K C n hC hb hL;have fr:∀ H,frzArgs pol1 88 0 [.sl false (l.map reAV),.rf 2 1 0 0,.rf 3 1 0 0,.rf 0 1 0 0] H=some ([.sl false (l.map reAV),.rf 2 1 0 0,.rf 3 1 0 0,.rf 0 1 0 0],H):=fun H=>
  AL _ _ _ (by simp[mixOk,show pol1.byref 88 1=true from rfl,show pol1.byref 88 2=true from rfl,show pol1.byref 88 3=true from rfl,AV.plain,AV.plainL,AN])
 refine AO (pol:=pol1) Tryz.func88 rfl rfl rfl rfl (fr _) ?_;have hlk:(l.map reAV).all (fun y=>decide (y.cells.length=8))=true:=by simp[AV.cells,AM]
 simp only[AV.cells]at hlk;have hw1:IntKind.i64.wrap (((l.length:Nat):Int)-1)=((l.length-1:Nat):Int):=AB ⟨by omega,by omega⟩;simp +contextual (disch:=omega) only[Tryz.f88,dd88,go_sem,simprocAttr,evAppend,length_append,mu88,↓AD,↓AC,↓AB,↓AA,hw1,hlk,ty26];have hN:l.length-1<=l.length:=by omega
 refine Ae (M:=(mskOf (pol1.mask 88) (pol1.gc 88) (pol1.acts 88) 0 2)) rfl (l.length-1) (fun i=>(⟨62,[(16,I i),(15,I (l.length-1:Nat)),(5,.ms (K.length+1+1+1+1+1+1) 1 i 0 i),(3,.rf 0 1 0 0),(2,.rf 3 1 0 0),(1,.rf 2 1 0 0),(0,.sl false (l.map reAV))],
  cS (K++[.row 1 ((jumpsP l n i).map (fun p:Nat=>I p)) 0]) (C++altP l n i) (n+lenL (l.take i)+2*i)⟩:St)) (fun _=>True) ?_ ?_ trivial _ ?_
 ·intro i hi _;obtain⟨k,hk⟩:∃ k,l[i]?=some k:=⟨_,getElem?_eq_getElem (by omega)⟩;have hkm:=mem_of_getElem? hk;have hl8:=AM k;have ht8:=AU k;have e1:=ED hk;have e2:=I7 l n i k hk;have e3:=F3 l n i k hk;have e4:=FD l (i+1);have hpl:=Hn caps top l n i hg (by omega);have hjl:=Ed l n i (by omega);have hk5:=BE caps top k (n+lenL (l.take i)+2*i+1) (hg k hkm);have h1:=fun R=>f107 0 0 0 0 true [] (C++altP l n i) (n+lenL (l.take i)+2*i) R (by rw[length_append,hC,hpl];omega) (by omega);have h2:=ih k hkm (K++[.row 1 ((jumpsP l n i).map (fun p:Nat=>I p)) 0]) (C++altP l n i++[⟨0,0,0,0,[]⟩]) (n+lenL (l.take i)+2*i+1) (by simp only[length_append,hC,hpl,length_singleton];omega) (by omega) (by omega);have h3:=fun R=>f107 3 0 0 0 true [] (C++altP l n i++[⟨0,0,0,0,[]⟩]++codeG k (n+lenL (l.take i)+2*i+1)) (n+lenL (l.take i)+2*i+1+lenG k) R (by simp only[length_append,hC,hpl,length_singleton,hk5];omega) (by omega);simp only[map_nil]at h1 h3;have hap:=fun C' m' x=>Hk (K:=K) (C:=C') (m:=m') (els:=(jumpsP l n i).map (fun p:Nat=>I p)) (n:=i) (x:=x) (by rw[length_map];exact hjl) (by omega);have hget:(C++altP l n i++[(⟨0,0,0,0,[]⟩:Ins)]++codeG k (n+lenL (l.take i)+2*i+1)++[(⟨3,0,0,0,[]⟩:Ins)])[n+lenL (l.take i)+2*i]?=some ⟨0,0,0,0,[]⟩:=by
   have:n+lenL (l.take i)+2*i=(C++altP l n i).length:=by rw[length_append,hC,hpl];omega
   rw[this,append_assoc,append_assoc,getElem?_append_right (le_refl _),sub_self];rfl
  have hset:∀ x:Ins,(C++altP l n i++[(⟨0,0,0,0,[]⟩:Ins)]++codeG k (n+lenL (l.take i)+2*i+1)++[(⟨3,0,0,0,[]⟩:Ins)]).set (n+lenL (l.take i)+2*i) x=C++altP l n i++(x::(codeG k (n+lenL (l.take i)+2*i+1)++[⟨3,0,0,0,[]⟩])):=by
   intro x;have:n+lenL (l.take i)+2*i=(C++altP l n i).length:=by rw[length_append,hC,hpl];omega
   rw[this,append_assoc,append_assoc,set_append_right _ _ (le_refl _),sub_self];rfl
  have hlq:(C.length+(altP l n i).length+1+(codeG k (n+lenL (l.take i)+2*i+1)).length=n+lenL (l.take i)+2*i+1+lenG k)=True:=eq_true (by omega);simp +contextual (disch:=omega) only[Tryz.f88,dd88,go_sem,simprocAttr,length_append,mu88,↓AD,↓AC,↓AB,↓AA,hget,hlq,hk,hap,ty26,h1,h2,h3,hl8,ht8,Ai,Aq,P7,AV.beqL_refl];have hm1:n+(lenL (l.take i)+lenG k)+2*(i+1)=n+lenL (l.take i)+2*i+1+lenG k+1:=by omega
  have hm2:n+lenL (l.take i)+2*i+lenG k+2=n+lenL (l.take i)+2*i+1+lenG k+1:=by omega
  rw[hm2]at e2;refine⟨by unfold dOk;kernel_rfl,?_⟩;have e3':(jumpsP l n (i+1)).map (fun p:Nat=>I p)=(jumpsP l n i).map (fun p:Nat=>I p)++[I (n+lenL (l.take i)+2*i+1+lenG k:Nat)]:=by rw[e3,map_append];rfl
  rw[hset,e1,e2,e3',hm1,<- append_assoc];rfl
 ·intro _;obtain⟨k,hk⟩:∃ k,l[l.length-1]?=some k:=⟨_,getElem?_eq_getElem (by omega)⟩;have hkm:=mem_of_getElem? hk;have hl8:=AM k;have ht8:=AU k;have e1:=ED hk;rw[show l.length-1+1=l.length by omega,take_length]at e1;have hpl:=Hn caps top l n (l.length-1) hg (by omega);have hjl:=Ed l n (l.length-1) (by omega);have hm0:=I8 ((n+lenL l+2*(l.length-1):Nat):Int) l n k hk;have hma:=LK ((n+lenL l+2*(l.length-1):Nat):Int) l n (l.length-1) (by omega) rfl;have hms:=LJ caps top ((n+lenL l+2*(l.length-1):Nat):Int) l n;have h2:=ih k hkm (K++[.row 1 ((jumpsP l n (l.length-1)).map (fun p:Nat=>I p)) 0]) (C++altP l n (l.length-1)) (n+lenL (l.take (l.length-1))+2*(l.length-1)) (by rw[length_append,hC,hpl];omega) (by omega) (by omega);have hq:n+lenL (l.take (l.length-1))+2*(l.length-1)+lenG k=n+lenL l+2*(l.length-1):=by omega
  rw[append_assoc,<- hm0,hq]at h2;simp +contextual (disch:=omega) only[Tryz.f88,dd88,go_sem,simprocAttr,evAppend,length_append,mu88,↓AD,↓AC,↓AB,↓AA,hw1,hk,h2,hl8,ht8,ty26,Ai,Aq];generalize hE:n+lenL l+2*(l.length-1)=e at *;refine⟨by unfold dOk;kernel_rfl,?_⟩
  refine Ae (M:=(mskOf (pol1.mask 88) (pol1.gc 88) (pol1.acts 88) 0 11)) rfl (l.length-1) (fun j=>(⟨62,[(51,I j),(50,I (l.length-1:Nat)),(49,.ms (K.length+1+1+1+1+1+1) 1 (l.length-1) 0 (l.length-1)),(3,.rf 0 1 0 0)],
   cS (K++[.row 1 ((jumpsP l n (l.length-1)).map (fun p:Nat=>I p)) 0]) (C++altM (e:Nat) l n j) e⟩:St)) (fun j=>(C++altM (e:Nat) l n j).length=e) ?_ ?_ ?_ _ rfl
  ·intro j hj hlj;obtain⟨p,hp⟩:∃ p,(jumpsP l n (l.length-1))[j]?=some p:=⟨_,getElem?_eq_getElem (by omega)⟩;obtain⟨hp1,hp2,hp3⟩:=hms j p hg hp;have hpe:p=C.length+(p-n):=by omega
   have hgt:(C++altM (e:Nat) l n j)[p]?=some ⟨3,0,0,0,[]⟩:=by
    rw[hpe,hC,getElem?_append_right (by omega),hC,add_sub_cancel_left];exact hp2
   have hpb:p<e:=by
    have:=(List.getElem?_eq_some_iff.1 hgt).1;omega
   have hst0:(C++altM (e:Nat) l n j).set p ⟨3,(e:Nat),0,0,[]⟩=C++altM (e:Nat) l n (j+1):=by
    rw[hpe,hC,set_append_right _ _ (by omega),hC,add_sub_cancel_left,hp3]
   have hst:((C++altM (e:Nat) l n j).map insAV).set p (.agg [I 3,I (e:Nat),I 0,I 0,.sl false []])=(C++altM (e:Nat) l n (j+1)).map insAV:=by
    rw[<- hst0,map_set];rfl
   have hlj2:(C++altM (e:Nat) l n (j+1)).length=e:=by rw[<- hst0,List.length_set,hlj]
   simp +contextual (disch:=omega) only[Tryz.f88,dd88,go_sem,simprocAttr,evAppend,mu88,↓AD,↓AC,↓AB,↓AA,hp,hgt,hlj,hjl,hst,Ai,Aq];exact⟨hlj2,rfl⟩
  ·intro _;simp +contextual (disch:=omega) only[Tryz.f88,dd88,go_sem,simprocAttr,evAppend,length_append,mu88,↓AD,↓AC,↓AB,↓AA,Ai];rw[hma];exact JI _ _ _ rfl rfl
  ·rw[hm0,length_append,length_append,hC,hpl,BE caps top k _ (hg k hkm)];omega
 ·rw[F2,Fs,List.length_take,length_map,Nat.min_eq_left hN];simp[lenL];rfl
end
section
attribute [local go_sem] evAppend length_append map_append
def optsM (md:Int) (k:Re) (e:Int):Nat->Nat->Nat->List Ins
 | _,_,0=>[]
 | p,j,m+1=>(if 0<j then insSplit md (p+1:Nat) e else⟨0,0,0,0,[]⟩)::(codeG k (p+1)++optsM md k e (p+lenG k+1) (j-1) m)
theorem Ct {caps top:Int}{k:Re} (h:GoodC caps top k) (md e:Int):∀(m p j:Nat),(optsM md k e p j m).length=m*(lenG k+1)
 | 0,_,_=>by simp[optsM]
 | m+1,p,j=>by
   rw[optsM,length_cons,length_append,BE caps top k _ h,Ct h md e m,succ_mul];omega
theorem Eb (md e:Int) (k:Re):∀(m p:Nat),optsM md k e p 0 (m+1)=optsM md k e p 0 m++(⟨0,0,0,0,[]⟩::codeG k (p+m*(lenG k+1)+1))
 | 0,p=>by simp[optsM]
 | m+1,p=>by
   rw[optsM,Nat.zero_sub,Eb md e k m]
   conv=>rhs;rw[optsM]
   have:p+lenG k+1+m*(lenG k+1)+1=p+(m+1)*(lenG k+1)+1:=by rw[succ_mul];omega
   rw[this];simp
theorem IX (md:Int) (e:Nat) (k:Re):∀(m p j:Nat),m<=j->optsM md k e p j m=optsG md k p e m
 | 0,_,_,_=>rfl
 | m+1,p,j,h=>by
   rw[optsM,if_pos (by omega),IX md e k m _ (j-1) (by omega),optsG,optsG,List.range_succ_eq_map,List.flatMap_cons,List.flatMap_map];simp only[Nat.zero_mul,Nat.add_zero,List.cons_append];congr 2;congr 1
   funext i
   have:p+lenG k+1+i*(lenG k+1)+1=p+(i+1)*(lenG k+1)+1:=by rw[succ_mul];omega
   simp only[Function.comp,Nat.succ_eq_add_one,this]
theorem FU {caps top:Int}{k:Re} (hk:GoodC caps top k) (md e:Int):∀(m p j:Nat),j<m->(optsM md k e p j m)[j*(lenG k+1)]?=some ⟨0,0,0,0,[]⟩/\(optsM md k e p j m).set (j*(lenG k+1)) (insSplit md (p+j*(lenG k+1)+1:Nat) e)=optsM md k e p (j+1) m
 | 0,_,_,h=>by omega
 | m+1,p,0,h=>by
   refine⟨by simp[optsM],?_⟩;simp[optsM]
 | m+1,p,j+1,h=>by
   have hl:=BE caps top k (p+1) hk;obtain⟨h1,h2⟩:=FU hk md e m (p+lenG k+1) j (by omega);have hp:(j+1)*(lenG k+1)=(codeG k (p+1)).length+j*(lenG k+1)+1:=by rw[succ_mul];omega
   have hq:p+lenG k+1+j*(lenG k+1)+1=p+(j+1)*(lenG k+1)+1:=by rw[succ_mul];omega
   rw[hq]at h2;refine⟨?_,?_⟩
   ·rw[optsM,hp,getElem?_cons_succ,getElem?_append_right (by omega),add_sub_cancel_left];exact h1
   ·rw[optsM,if_pos (by omega),Nat.add_sub_cancel]
    conv=>lhs;arg 2;rw[hp]
    rw[set_cons_succ,set_append_right _ _ (by omega),add_sub_cancel_left,h2]
    conv=>rhs;rw[optsM,if_pos (by omega)]
    rfl
def splA (p L j:Nat):List AV:=(List.range j).map fun i=>I (p+i*(L+1):Nat)
theorem IL (p L j:Nat):splA p L (j+1)=splA p L j++[I (p+j*(L+1):Nat)]:=by
 rw[splA,List.range_succ,map_append];rfl
theorem E4 (p L j:Nat):(splA p L j).length=j:=by simp[splA]
theorem J7 {p L j i:Nat} (h:i<j):(splA p L j)[i]?=some (I (p+i*(L+1):Nat)):=by
 simp[splA,List.getElem?_range h]
end
section
theorem IM {K:List MB}{C C':List Ins}{n n':Nat}{b:MB}:sameAt (K.length+1+1+1+1+1+1) (cS (K++[b]) C n) (cS (K++[b]) C' n')=true:=by
 simp[sameAt,MB.beq_refl]
theorem QG (caps top:Int) (set:List (Int×Int)) (k:Re) (mn mx md n0:Int) (neg:Bool) (hw:GoodC caps top (.mk 4 set [k] mn mx md n0 neg)) (ih:Does111 k):Does108 (.mk 4 set [k] mn mx md n0 neg):=by
 intro K C n hC hb hL;have hgk:GoodC caps top k:=hw.kids k (mem_singleton.2 rfl);have hr:=(BC hw.whole).2.2.1 rfl;simp only[repG,Bool.and_eq_true,Bool.or_eq_true,decide_eq_true_eq,beq_iff_eq]at hr;obtain⟨mn',rfl⟩:∃ m:Nat,mn=m:=⟨mn.toNat,by omega⟩;have hmn:mn'<=32:=by omega
 have hll:lenL [k]=lenG k:=by simp[lenL]
 have hlr:mn'*lenG k<=lenG (.mk 4 set [k] mn' mx md n0 neg)/\lenG k<=lenG (.mk 4 set [k] mn' mx md n0 neg):=by
  rw[lenG,if_neg (by omega),if_neg (by omega),if_neg (by omega),if_pos rfl,hll,toNat_natCast];split
  ·rw[succ_mul];omega
  ·obtain⟨e,he⟩:∃ e:Nat,mx=(mn' + e:Nat):=⟨(mx-mn').toNat,by omega⟩;subst he;rw[toNat_natCast,add_mul];have:1<=mn'->lenG k<=mn'*lenG k:=fun h=>Nat.le_mul_of_pos_left _ h;have:1<=e->lenG k<=e*lenG k:=fun h=>Nat.le_mul_of_pos_left _ h;omega
 have hrc:(.pt (reC (.mk 4 set [k] mn' mx md n0 neg)):AV)=.pt (nodeL 4 set [k] mn' mx md n0 neg):=congrArg AV.pt Bh;have hcl:=fun i=>HY hgk n i;have hl8:=AM k;have ht8:=AU k;have fr:∀ H,frzArgs pol1 86 0 [.pt (nodeL 4 set [k] mn' mx md n0 neg),.rf 3 1 0 0,.rf 2 1 0 0,.rf 0 1 0 0] H=some ([.pt (nodeL 4 set [k] mn' mx md n0 neg),.rf 3 1 0 0,.rf 2 1 0 0,.rf 0 1 0 0],H):=fun H=>
  AL _ _ _ (by simp[mixOk,show pol1.byref 86 1=true from rfl,show pol1.byref 86 2=true from rfl,show pol1.byref 86 3=true from rfl,AV.plain,AV.plainL,AF,AN,AZ])
 rw[hrc];refine AO (pol:=pol1) Tryz.func86 rfl rfl rfl rfl (fr _) ?_;simp +contextual (disch:=omega) only[Tryz.f86,dd86,go_sem,simprocAttr,evAppend,length_append,mu86,↓AD,↓AC,↓AB,↓AA];refine Ae (M:=(mskOf (pol1.mask 86) (pol1.gc 86) (pol1.acts 86) 0 1)) rfl mn' (fun i=>(⟨84,[(13,I i),(12,I mn'),(3,.rf 0 1 0 0),(2,.rf 2 1 0 0),(1,.rf 3 1 0 0),(0,.pt (nodeL 4 set [k] mn' mx md n0 neg))],cS K (C++copiesG k n i) (n+i*lenG k)⟩:St)) (fun _=>True) ?_ ?_ trivial _ ?_
 ·intro i hi _;have e1:=Kz k n i;have e3:(i+1)*lenG k=i*lenG k+lenG k:=succ_mul ..;have e4:(i+1)*lenG k<=mn'*lenG k:=mul_le_mul_right _ hi;have e2:=hcl i;have h2:=ih K (C++copiesG k n i) (n+i*lenG k) (by rw[length_append,hC,e2]) (by omega) (by omega);simp +contextual (disch:=omega) only[Tryz.f86,dd86,go_sem,simprocAttr,evAppend,length_append,mu86,↓AD,↓AC,↓AB,↓AA,h2,hl8,ht8];repeat' (first|intro _|apply And.intro|(unfold dOk;kernel_rfl)|(show (_||_)=true;kernel_rfl)|(show (_&&_)=true;kernel_rfl))
  rw[e1,e3,<- append_assoc,<- add_assoc];rfl
 ·intro _;have hA:(C++copiesG k n mn').length=n+mn'*lenG k:=by rw[length_append,hC,hcl]
  generalize hAe:C++copiesG k n mn' = A at *;have hp0:n+mn'*lenG k<=100000:=by omega
  generalize hpe:n+mn'*lenG k=p at *;by_cases hmx:mx = -1
  ·subst hmx;have hLL:lenG (.mk 4 set [k] mn' (-1) md n0 neg)=mn'*lenG k+lenG k+2:=by
    rw[lenG,if_neg (by omega),if_neg (by omega),if_neg (by omega),if_pos rfl,if_pos rfl,hll,toNat_natCast,succ_mul]
   have hEb:(p+lenG k+2)<=100000:=by omega
   simp +contextual (disch:=omega) only[Tryz.f86,dd86,go_sem,simprocAttr,evAppend,length_append,mu86,↓AD,↓AC,↓AB,↓AA,hl8];repeat' (first|intro _|apply And.intro|(unfold dOk;kernel_rfl)|(show (_||_)=true;kernel_rfl)|(show (_&&_)=true;kernel_rfl))
   refine Ae (M:=(mskOf (pol1.mask 86) (pol1.gc 86) (pol1.acts 86) 0 9)) rfl 1 (fun j=>(⟨84,[(38,I j),(37,I (1:Nat)),(6,.ms (K.length+1+1+1+1+1+1) 1 j 0 j),(3,.rf 0 1 0 0),(2,.rf 2 1 0 0),(1,.rf 3 1 0 0),(0,.pt (nodeL 4 set [k] mn' (-1) md n0 neg))],
    cS (K++[.row 1 (splA p (lenG k) j) 0]) (A++optsM md k ((p+lenG k+2):Nat) p 0 j) (p+j*(lenG k+1))⟩:St)) (fun _=>True) ?_ ?_ trivial _ ?_
   ·intro j hj _;have e4:(j+1)*(lenG k+1)<=1*(lenG k+1):=mul_le_mul_right _ hj;have e3:(j+1)*(lenG k+1)=j*(lenG k+1)+lenG k+1:=by rw[succ_mul];omega
    have e1:=Eb md ((p+lenG k+2):Nat) k j p;have hol:=Ct hgk md ((p+lenG k+2):Nat) j p 0;have h1:=fun R=>f107 0 0 0 0 true [] (A++optsM md k ((p+lenG k+2):Nat) p 0 j) (p+j*(lenG k+1)) R (by rw[length_append,hA,hol]) (by omega);simp only[map_nil]at h1;have hap:=fun C' m' x=>Hk (K:=K) (C:=C') (m:=m') (els:=splA p (lenG k) j) (n:=j) (x:=x) (E4 _ _ _) (by omega);have h2:=ih (K++[.row 1 (splA p (lenG k) j++[I (p+j*(lenG k+1):Nat)]) 0]) (A++optsM md k ((p+lenG k+2):Nat) p 0 j++[⟨0,0,0,0,[]⟩]) (p+j*(lenG k+1)+1) (by simp only[length_append,hA,hol,length_singleton]) (by omega) (by omega);have er:=IL p (lenG k) j;simp +contextual (disch:=omega) only[Tryz.f86,dd86,go_sem,simprocAttr,length_append,mu86,↓AD,↓AC,↓AB,↓AA,h1,hap,h2,hl8,ht8,Ai,Aq];repeat' (first|intro _|apply And.intro|(unfold dOk;kernel_rfl)|(show (_||_)=true;kernel_rfl)|(show (_&&_)=true;kernel_rfl))
    have hq:p+(j+1)*(lenG k+1)=p+j*(lenG k+1)+1+lenG k:=by omega
    have hc:A++optsM md k ((p+lenG k+2):Nat) p 0 (j+1)=A++optsM md k ((p+lenG k+2):Nat) p 0 j++[⟨0,0,0,0,[]⟩]++codeG k (p+j*(lenG k+1)+1):=by rw[e1];simp
    rw[er,hc,hq];rfl
   ·intro _;have hol0:=Ct hgk md ((p+lenG k+2:Nat):Int) 1 p 0;have hp3:=fun R=>f107 3 (p:Nat) 0 0 true [] (A++optsM md k ((p+lenG k+2:Nat)) p 0 1) (p+1*(lenG k+1)) R (by rw[length_append,hA,hol0]) (by omega);simp only[map_nil]at hp3;have hg0:(splA p (lenG k) 1)[0]?=some (I (p:Nat)):=by simp[splA]
    have hsl:=E4 p (lenG k) 1;simp +contextual (disch:=omega) only[Tryz.f86,dd86,go_sem,simprocAttr,evAppend,length_append,mu86,↓AD,↓AC,↓AB,↓AA,hsl,Ai,hl8,IM,hp3,hg0];repeat' (first|intro _|apply And.intro|(unfold dOk;kernel_rfl)|(show (_||_)=true;kernel_rfl)|(show (_&&_)=true;kernel_rfl))
    refine Ae (M:=(mskOf (pol1.mask 86) (pol1.gc 86) (pol1.acts 86) 0 16)) rfl 1 (fun j=>(⟨84,[(67,I j),(66,I (1:Nat)),(65,.ms (K.length+1+1+1+1+1+1) 1 1 0 1),(3,.rf 0 1 0 0),(0,.pt (nodeL 4 set [k] mn' (-1) md n0 neg))],
     cS (K++[.row 1 (splA p (lenG k) 1) 0]) (A++optsM md k ((p+lenG k+2:Nat)) p j 1++[(⟨3,p,0,0,[]⟩:Ins)]) (p+lenG k+2)⟩:St)) (fun _=>True) ?_ ?_ trivial _ ?_
    ·intro j hj _;have e4:(j+1)*(lenG k+1)<=1*(lenG k+1):=mul_le_mul_right _ hj;have e3:(j+1)*(lenG k+1)=j*(lenG k+1)+lenG k+1:=by rw[succ_mul];omega
     have hgs:=J7 (p:=p) (L:=lenG k) hj;obtain⟨g1,g2⟩:=FU hgk md ((p+lenG k+2):Nat) 1 p j hj;have hol:=Ct hgk md ((p+lenG k+2):Nat) 1 p j;have hcl2:(A++optsM md k ((p+lenG k+2:Nat)) p j 1++[(⟨3,p,0,0,[]⟩:Ins)]).length=(p+lenG k+2):=by simp only[length_append,hA,hol,length_singleton]<;>omega
     have hget:(A++optsM md k ((p+lenG k+2:Nat)) p j 1++[(⟨3,p,0,0,[]⟩:Ins)])[p+j*(lenG k+1)]?=some ⟨0,0,0,0,[]⟩:=by
      rw[List.getElem?_append_left (by rw[length_append,hA,hol];omega),getElem?_append_right (by omega),hA,add_sub_cancel_left];exact g1
     have hset:(A++optsM md k ((p+lenG k+2:Nat)) p j 1++[(⟨3,p,0,0,[]⟩:Ins)]).set (p+j*(lenG k+1)) (insSplit md (p+j*(lenG k+1)+1:Nat) ((p+lenG k+2):Nat))=(A++optsM md k ((p+lenG k+2:Nat)) p (j+1) 1++[(⟨3,p,0,0,[]⟩:Ins)]):=by
      rw[List.set_append_left _ _ (by rw[length_append,hA,hol];omega),set_append_right _ _ (by omega),hA,add_sub_cancel_left,g2]
     have hst:((A++optsM md k ((p+lenG k+2:Nat)) p j 1++[(⟨3,p,0,0,[]⟩:Ins)]).map insAV).set (p+j*(lenG k+1)) (insAV (insSplit md (p+j*(lenG k+1)+1:Nat) ((p+lenG k+2):Nat)))=(A++optsM md k ((p+lenG k+2:Nat)) p (j+1) 1++[(⟨3,p,0,0,[]⟩:Ins)]).map insAV:=by
      rw[<- hset,map_set]
     have h109:=f109 (p+j*(lenG k+1)+1:Nat) ((p+lenG k+2):Nat) md;simp +contextual (disch:=omega) only[Tryz.f86,dd86,go_sem,simprocAttr,evAppend,mu86,↓AD,↓AC,↓AB,↓AA,hgs,hget,hcl2,hst,hsl,h109,Ai,Aq];repeat' (first|intro _|apply And.intro|(unfold dOk;kernel_rfl)|(show (_||_)=true;kernel_rfl)|(show (_&&_)=true;kernel_rfl))
     rfl
    ·intro _;simp +contextual (disch:=omega) only[Tryz.f86,dd86,go_sem,simprocAttr,evAppend,length_append,mu86,↓AD,↓AC,↓AB,↓AA,Ai];have hcode:codeG (.mk 4 set [k] mn' (-1) md n0 neg) n=copiesG k n mn'++insSplit md ((n+mn'*lenG k+1:Nat):Int) ((n+mn'*lenG k+lenG k+2:Nat):Int)::(codeG k (n+mn'*lenG k+1)++[⟨3,(n+mn'*lenG k:Nat),0,0,[]⟩]):=by
      rw[codeG];simp only[copiesG,hll,codeHd,toNat_natCast,if_true];rfl
     rw[hpe]at hcode;have hfin:C++codeG (.mk 4 set [k] mn' (-1) md n0 neg) n=A++optsM md k ((p+lenG k+2:Nat)) p 1 1++[(⟨3,p,0,0,[]⟩:Ins)]:=by
      rw[hcode,<- append_assoc,hAe];simp[optsM]
     rw[hfin,show n+lenG (.mk 4 set [k] mn' (-1) md n0 neg)=p+lenG k+2 by omega];exact JI _ _ _ rfl rfl
    ·rw[show p+1*(lenG k+1)+1=p+lenG k+2 by omega];rfl
   ·simp[optsM,splA];rfl
  ·obtain⟨e,rfl⟩:∃ e:Nat,mx=(mn' + e:Nat):=⟨(mx-mn').toNat,by omega⟩;have hnn:mn' + e-mn' = e:=by omega
   have hLL:lenG (.mk 4 set [k] mn' (mn' + e:Nat) md n0 neg)=mn'*lenG k+e*(lenG k+1):=by
    rw[lenG,if_neg (by omega),if_neg (by omega),if_neg (by omega),if_pos rfl,if_neg hmx,hll,toNat_natCast,toNat_natCast,hnn,add_mul,Nat.mul_succ];omega
   have hsub:((mn' + e:Nat):Int)-(mn':Int)=(e:Int):=by omega
   have hEb:(p+e*(lenG k+1))<=100000:=by omega
   simp +contextual (disch:=omega) only[Tryz.f86,dd86,go_sem,simprocAttr,evAppend,length_append,mu86,↓AD,↓AC,↓AB,↓AA,hsub,hl8];repeat' (first|intro _|apply And.intro|(unfold dOk;kernel_rfl)|(show (_||_)=true;kernel_rfl)|(show (_&&_)=true;kernel_rfl))
   refine Ae (M:=(mskOf (pol1.mask 86) (pol1.gc 86) (pol1.acts 86) 0 9)) rfl e (fun j=>(⟨84,[(38,I j),(37,I (e:Nat)),(6,.ms (K.length+1+1+1+1+1+1) 1 j 0 j),(3,.rf 0 1 0 0),(2,.rf 2 1 0 0),(1,.rf 3 1 0 0),(0,.pt (nodeL 4 set [k] mn' (mn' + e:Nat) md n0 neg))],
    cS (K++[.row 1 (splA p (lenG k) j) 0]) (A++optsM md k ((p+e*(lenG k+1)):Nat) p 0 j) (p+j*(lenG k+1))⟩:St)) (fun _=>True) ?_ ?_ trivial _ ?_
   ·intro j hj _;have e4:(j+1)*(lenG k+1)<=e*(lenG k+1):=mul_le_mul_right _ hj;have e3:(j+1)*(lenG k+1)=j*(lenG k+1)+lenG k+1:=by rw[succ_mul];omega
    have e1:=Eb md ((p+e*(lenG k+1)):Nat) k j p;have hol:=Ct hgk md ((p+e*(lenG k+1)):Nat) j p 0;have h1:=fun R=>f107 0 0 0 0 true [] (A++optsM md k ((p+e*(lenG k+1)):Nat) p 0 j) (p+j*(lenG k+1)) R (by rw[length_append,hA,hol]) (by omega);simp only[map_nil]at h1;have hap:=fun C' m' x=>Hk (K:=K) (C:=C') (m:=m') (els:=splA p (lenG k) j) (n:=j) (x:=x) (E4 _ _ _) (by omega);have h2:=ih (K++[.row 1 (splA p (lenG k) j++[I (p+j*(lenG k+1):Nat)]) 0]) (A++optsM md k ((p+e*(lenG k+1)):Nat) p 0 j++[⟨0,0,0,0,[]⟩]) (p+j*(lenG k+1)+1) (by simp only[length_append,hA,hol,length_singleton]) (by omega) (by omega);have er:=IL p (lenG k) j;simp +contextual (disch:=omega) only[Tryz.f86,dd86,go_sem,simprocAttr,length_append,mu86,↓AD,↓AC,↓AB,↓AA,h1,hap,h2,hl8,ht8,Ai,Aq];repeat' (first|intro _|apply And.intro|(unfold dOk;kernel_rfl)|(show (_||_)=true;kernel_rfl)|(show (_&&_)=true;kernel_rfl))
    have hq:p+(j+1)*(lenG k+1)=p+j*(lenG k+1)+1+lenG k:=by omega
    have hc:A++optsM md k ((p+e*(lenG k+1)):Nat) p 0 (j+1)=A++optsM md k ((p+e*(lenG k+1)):Nat) p 0 j++[⟨0,0,0,0,[]⟩]++codeG k (p+j*(lenG k+1)+1):=by rw[e1];simp
    rw[er,hc,hq];rfl
   ·intro _;have hsl:=E4 p (lenG k) e;simp +contextual (disch:=omega) only[Tryz.f86,dd86,go_sem,simprocAttr,evAppend,length_append,mu86,↓AD,↓AC,↓AB,↓AA,hsl,Ai,hl8,IM];repeat' (first|intro _|apply And.intro|(unfold dOk;kernel_rfl)|(show (_||_)=true;kernel_rfl)|(show (_&&_)=true;kernel_rfl))
    refine Ae (M:=(mskOf (pol1.mask 86) (pol1.gc 86) (pol1.acts 86) 0 16)) rfl e (fun j=>(⟨84,[(67,I j),(66,I (e:Nat)),(65,.ms (K.length+1+1+1+1+1+1) 1 e 0 e),(3,.rf 0 1 0 0),(0,.pt (nodeL 4 set [k] mn' (mn' + e:Nat) md n0 neg))],
     cS (K++[.row 1 (splA p (lenG k) e) 0]) (A++optsM md k ((p+e*(lenG k+1):Nat)) p j e) (p+e*(lenG k+1))⟩:St)) (fun _=>True) ?_ ?_ trivial _ ?_
    ·intro j hj _;have e4:(j+1)*(lenG k+1)<=e*(lenG k+1):=mul_le_mul_right _ hj;have e3:(j+1)*(lenG k+1)=j*(lenG k+1)+lenG k+1:=by rw[succ_mul];omega
     have hgs:=J7 (p:=p) (L:=lenG k) hj;obtain⟨g1,g2⟩:=FU hgk md ((p+e*(lenG k+1)):Nat) e p j hj;have hol:=Ct hgk md ((p+e*(lenG k+1)):Nat) e p j;have hcl2:(A++optsM md k ((p+e*(lenG k+1):Nat)) p j e).length=(p+e*(lenG k+1)):=by simp only[length_append,hA,hol,length_singleton]<;>omega
     have hget:(A++optsM md k ((p+e*(lenG k+1):Nat)) p j e)[p+j*(lenG k+1)]?=some ⟨0,0,0,0,[]⟩:=by
      rw [ getElem?_append_right (by omega),hA,add_sub_cancel_left];exact g1
     have hset:(A++optsM md k ((p+e*(lenG k+1):Nat)) p j e).set (p+j*(lenG k+1)) (insSplit md (p+j*(lenG k+1)+1:Nat) ((p+e*(lenG k+1)):Nat))=(A++optsM md k ((p+e*(lenG k+1):Nat)) p (j+1) e):=by
      rw [ set_append_right _ _ (by omega),hA,add_sub_cancel_left,g2]
     have hst:((A++optsM md k ((p+e*(lenG k+1):Nat)) p j e).map insAV).set (p+j*(lenG k+1)) (insAV (insSplit md (p+j*(lenG k+1)+1:Nat) ((p+e*(lenG k+1)):Nat)))=(A++optsM md k ((p+e*(lenG k+1):Nat)) p (j+1) e).map insAV:=by
      rw[<- hset,map_set]
     have h109:=f109 (p+j*(lenG k+1)+1:Nat) ((p+e*(lenG k+1)):Nat) md;simp +contextual (disch:=omega) only[Tryz.f86,dd86,go_sem,simprocAttr,evAppend,mu86,↓AD,↓AC,↓AB,↓AA,hgs,hget,hcl2,hst,hsl,h109,Ai,Aq];repeat' (first|intro _|apply And.intro|(unfold dOk;kernel_rfl)|(show (_||_)=true;kernel_rfl)|(show (_&&_)=true;kernel_rfl))
     rfl
    ·intro _;simp +contextual (disch:=omega) only[Tryz.f86,dd86,go_sem,simprocAttr,evAppend,length_append,mu86,↓AD,↓AC,↓AB,↓AA,Ai];have hcode:codeG (.mk 4 set [k] mn' (mn' + e:Nat) md n0 neg) n=restG md k n mn' (p+e*(lenG k+1)) e:=by
      rw[codeG,if_neg (by omega),if_neg (by omega),if_neg (by omega),if_neg (by omega),if_neg (by omega),if_pos rfl,if_neg hmx];simp only[hll,toNat_natCast,hnn,restG,optsG,copiesG,codeHd];have:n+(mn' + e)*lenG k+e=p+e*(lenG k+1):=by
       rw[<- hpe,add_mul,Nat.mul_succ];omega
      rw[this]
     have hfin:C++codeG (.mk 4 set [k] mn' (mn' + e:Nat) md n0 neg) n=A++optsM md k ((p+e*(lenG k+1):Nat)) p e e:=by
      rw[hcode,restG,<- append_assoc,hAe,hpe,IX md _ k e p e (le_refl _)]
     rw[hfin,show n+lenG (.mk 4 set [k] mn' (mn' + e:Nat) md n0 neg)=p+e*(lenG k+1) by omega];exact JI _ _ _ rfl rfl
    ·rfl
   ·simp[optsM,splA];rfl
 ·simp[copiesG];rfl
end
section
attribute [local go_sem] length_append
theorem f111 (caps top:Int) (hcaps:caps<=1000):∀(N:Nat) (r:Re),r.wt<=N->r.wt<=1000000->GoodC caps top r->Does111 r
 | 0,r,h,_,_=>by have:=r.wt_pos;omega
 | N+1,r,h,hN,hw=>by
   refine QE caps top hcaps r hN hw ?_;rintro op set kids mn mx md n neg rfl;have hkl:=Re.wtL_len kids;have hwt:1+set.length+Re.wtL kids=(Re.mk op set kids mn mx md n neg).wt:=by simp[Re.wt]
   have hkd:=(BC hw.whole).2.1;have ih:=fun k (hk:k∈kids)=>f111 caps top hcaps N k (by have:=Re.wtL_mem hk;omega) (by have:=Re.wtL_mem hk;omega) (hw.kids k hk);refine⟨?_,?_,ih⟩
   ·rintro rfl;obtain⟨k,rfl⟩:∃ k,kids=[k]:=List.length_eq_one_iff.1 (by simpa [kidsG] using hkd);exact QG caps top set k mn mx md n neg hw (ih k (mem_singleton.2 rfl))
   ·rintro rfl;exact QF caps top kids (by simpa [kidsG] using hkd) (by omega) hw.kids ih
theorem f51 (caps top:Int) (hcaps:caps<=1000) (r:Re) (hN:r.wt<=1000000) (hw:GoodC caps top r) (hl:lenG r<=8192) (H:List MB) :
  call Pg pol1 52 [.pt (reC r)] H=some (.ms H.length 5 (lenG r) 0 (lenG r),H++[.row 5 ((codeG r 0).map insAV) 0]):=by
 have h111:=f111 caps top hcaps r.wt r (le_refl _) hN hw [] [] 0 rfl (by omega) hl;have hlen:=BE caps top r 0 hw;rw[List.nil_append,Nat.zero_add]at h111;refine NZ (k:=5) (els:=(codeG r 0).map insAV) Tryz.func52 rfl rfl rfl rfl (fun _=>rfl) (by simp[AV.plain,AV.plainL,AZ]) (AI _) ?_ H;generalize codeG r 0=B at *;generalize lenG r=L at *
 have h2:call Pg pol1 89 [.pt (reC r),.rf 2 1 0 0,.rf 3 1 0 0,.rf 5 1 0 0,.rf 4 1 0 0] [.row 1 [.ms 1 5 0 0 0] 0,.row 5 [] 0,.row 1 [.clo 85 [.rf 0 1 0 0]] 0,.row 1 [.clo 89 [.rf 2 1 0 0,.rf 3 1 0 0,.rf 5 1 0 0,.rf 4 1 0 0]] 0,
  .row 1 [.clo 86 [.rf 3 1 0 0,.rf 2 1 0 0,.rf 0 1 0 0]] 0,.row 1 [.clo 88 [.rf 2 1 0 0,.rf 3 1 0 0,.rf 0 1 0 0]] 0]=some (.tup [],cS [] B L):=h111
 simp +contextual (disch:=omega) only[Tryz.f52,dd52,go_sem,simprocAttr,mu52,↓AD,↓AC,↓AB,↓AA,h2];exact Pm rfl rfl rfl hlen rfl (fun j=>HB _)
end
end Go.Ev
