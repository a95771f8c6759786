/- What functions of the program compute; no further conditions. -/
import Derived.Test.YtjgmfjneajcbmaaGreatF26
set_option linter.unusedVariables false
set_option linter.unusedSimpArgs false
open List (all_append all_cons append_assoc cons_append getElem?_map length_append length_cons length_nil map_cons map_nil mem_cons nil_append take_left')
open Option (isSome_none isSome_some map_some)
open Go.Proofs Go.RowKit Go.IntWalk
set_option maxHeartbeats 16000000
set_option maxRecDepth 100000
namespace Go.Ev
attribute [local go_sem] evBin frzB Av BG bndO bnd evEq eqCells not_false_eq_true not_true_eq_false Af Array.size_empty length_append List.map_append tySzE List.head?_drop Nat.mul_one AR AY AP AS AT Ad
section
theorem HE (x:GI):(giA x).cells=[giA x]:=by cases x<;>rfl
theorem Qa (x:GI):AV.ok (giA x)=true:=by cases x<;>rfl
theorem QB {G:List MB}{id z:Nat} (x:GI) (h:G[id]?=some (.row 1 [giA x] z)):fz (.rf id 1 0 0) G=some (.pt [giA x],G.set id (.row 1 [giA x] (max z 1))):=by
 have hr:getRow G id=some (1,[giA x],z):=by unfold getRow;rw[h]
 have h1:∀ j H,fzA j (giA x) H=some (giA x,H):=fun j H=>by cases x<;>rfl
 simp[fz,fzA,hr,mark,fzJ,HE,fzL,h1]
theorem s182 (b0:MB) (K:List MB) {pc:List AV} (hpc:AV.plainL pc=true) (t:List Int) (st:Int) (s F:Nat) (hF:F<=1099511627776) (O:List Pt) (J:List AV) (hJ:∀ m,3<=m->AV.underL m J=true) (hO:O.length<=2000000000)
  (op:Int) (set:List (Int×Int)) (kids:List Re) (mn mx md n:Int) (neg:Bool) (k:Int) (p:Pt) (hi:p.i<=1000000) (q:Option Pt) (O':List Pt) (s':Nat) (h:roundM F (.mk op set kids mn mx md n neg) k p O s=some (q,O',s')) :
  ∃ J',(∀ m,3<=m->AV.underL m J' = true)/\call Pg pol1 164 [NV p.i,cpA p.c,todoA p.g,.pt [.rf 2 1 0 0],.pt [.pt (reC (.mk op set kids mn mx md n neg))],.pt [I k]] (hpS b0 K pc t st s F O J) =
    some (.tup [qA q,.bool q.isSome],hpS b0 K pc t st s' F O' J'):=by
 obtain⟨i,cs,g⟩:=p;simp only at hi;unfold roundM at h;cases kids with
 | nil=>simp at h
 | cons a ks=>
 cases ks with
 | cons b ks=>simp at h
 | nil=>
 simp only at h;by_cases hc:s<F/\0<=k/\k<=(i:Int)
 case neg=>rw[if_neg hc]at h;simp at h
 rw[if_pos hc]at h;obtain⟨hs,hk0,hki⟩:=hc;have hret:=fun O1 J1 (hJ1:∀ m,3<=m->AV.underL m J1=true) p B=>Gs (f:=164) rfl rfl (b0:=b0) (K:=K) (B:=B) hpc (t:=t) (st:=st) (s:=s) (s':=s+1) (F:=F) (O:=O) (O':=O1) (J:=J) (J':=J1) hJ1 (Mh p true) (FL p true);obtain⟨N,hN⟩:∃ N,K.length+4=N:=⟨_,rfl⟩;obtain⟨hlen,g0,g1,g2,g3,g4,g5,g6,z0,z1,z2,z3,z4,z5,z6⟩:=ownM b0 hN;have h135:∀ B,call Pg pol1 125 [.rf 2 1 0 0] (hpS b0 K pc t st s F O J++B)=some (.bool true,hpS b0 K pc t st (s+1) F O J++B):=fun B=>s135 b0 (K++B) hpc t _ _ st s F _ (CX _ (by simp) _ _ hJ) hs hF;have h148:=fun A E B=>s148 (.mk op set [a] mn mx md n neg) (k+1) (hp4 b0 K A E++B) (by simp[hp4]);have h100a:∀ x A E B,call Pg pol1 92 [.rf 2 1 0 0,.pt (reC a),.pt [giA x,todoA g]] (hp4 b0 K A E++B)=some (todoA (.re a::x::g),hp4 b0 K A E++B):=fun x A E B=>s100 a (x::g) _ (by simp[hp4]);have hw:IntKind.i64.wrap (k+1)=k+1:=by rw[i64_in]<;>omega
 have f0:∀ A E x1,fz (.rf N 1 0 0) (hp4 b0 K A E++[.row 1 [NV i] 0,x1])=some (.pt [NV i],hp4 b0 K A E++[.row 1 [NV i] 1,x1]):=fun A E x1=>by rw[DP (g0 _ _ _) rfl,z0];rfl
 have hal:=AM a;rw[Bh]at h148 |-;simp only[map_cons,map_nil]at h148 |-;by_cases h1:k<mn
 ·rw[if_pos h1]at h;simp only[Option.some.injEq,Prod.mk.injEq]at h;obtain⟨rfl,rfl,rfl⟩:=h;refine⟨J,hJ,?_⟩;have hr:=hret O J hJ ⟨i,cs,.re a::.round (.mk op set [a] mn mx md n neg) (k+1)::g⟩;refine AO (pol:=pol1) Tryz.func164 rfl rfl rfl rfl (AL _ _ 0 rfl) ?_;have hxc:=HE (.round (.mk op set [a] mn mx md n neg) (k+1));have hxo:=Qa (.round (.mk op set [a] mn mx md n neg) (k+1));have h100:=h100a (.round (.mk op set [a] mn mx md n neg) (k+1));simp only[qA,isSome_some];generalize giA (.round (.mk op set [a] mn mx md n neg) (k+1))=X at *;simp only[hpS]at *;generalize O.reverse.map ptA++J=E0 at *;generalize O.length+J.length=L0 at *;generalize O.length=n0 at *;simp +contextual (disch:=omega) only[Tryz.f164,Iv,go_sem,simprocAttr,evAppend,IZ,↓AD,↓AC,↓AB,↓AA,hlen,hw,h135,h148,h100,f0,h1,hal,hxc,hxo,hg41,hg42,hg43,z42,z43,sameAt_refl,Ag,g0,g1,g2,g3,g4,g5,g6,z0,z1,z2,z3,z4,z5,z6,A5,Ao,Am,An,BT,BV,BU,BW,A4,A6,A7,AQ,Ah,Aj,Ac,Aa,Ab,A0,Ax,A1,A3,Ak,Al,append_assoc,cons_append,nil_append,length_append,length_cons,length_nil];repeat' (first|intro _|apply And.intro|(unfold dOk;kernel_rfl)|exact St.beq_refl _|(show altO _ _ _ _=true;kernel_rfl)|(show (_||_)=true;kernel_rfl)|(show (_&&_)=true;kernel_rfl))
  exact hr _
 rw[if_neg h1]at h;have hmx0:(0<=mx)=(0<=mx):=rfl;by_cases h2:0<=mx/\mx<=k
 ·rw[if_pos h2]at h;simp only[Option.some.injEq,Prod.mk.injEq]at h;obtain⟨rfl,rfl,rfl⟩:=h;refine⟨J,hJ,?_⟩;have hr:=hret O J hJ ⟨i,cs,g⟩;refine AO (pol:=pol1) Tryz.func164 rfl rfl rfl rfl (AL _ _ 0 rfl) ?_;simp only[qA,isSome_some];simp only[hpS]at *;generalize O.reverse.map ptA++J=E0 at *;generalize O.length+J.length=L0 at *;generalize O.length=n0 at *;obtain⟨h2a,h2b⟩:=h2;simp +contextual (disch:=omega) only[Tryz.f164,Iv,go_sem,simprocAttr,evAppend,IZ,↓AD,↓AC,↓AB,↓AA,hlen,hw,h135,f0,h1,h2a,h2b,hal,hg41,hg42,hg43,z42,z43,sameAt_refl,Ag,g0,g1,g2,g3,g4,g5,g6,z0,z1,z2,z3,z4,z5,z6,A5,Ao,Am,An,BT,BV,BU,BW,A4,A6,A7,AQ,Ah,Aj,Ac,Aa,Ab,A0,Ax,A1,A3,Ak,Al,append_assoc,cons_append,nil_append,length_append,length_cons,length_nil];repeat' (first|intro _|apply And.intro|(unfold dOk;kernel_rfl)|exact St.beq_refl _|(show altO _ _ _ _=true;kernel_rfl)|(show (_||_)=true;kernel_rfl)|(show (_&&_)=true;kernel_rfl))
  exact hr _
 rw[if_neg h2]at h;have eM:giA (.moved (.mk op set [a] mn mx md n neg) (k+1) i)=.clo 165 [.pt [NV i],.pt [giA (.round (.mk op set [a] mn mx md n neg) (k+1))]]:=rfl;have h100:=h100a (.moved (.mk op set [a] mn mx md n neg) (k+1) i);rw[eM]at h100;have f13:∀ A E x0 x1 x2,fz (.rf (N+3) 1 0 0) (hp4 b0 K A E++[x0,x1,x2,.row 1 [giA (.round (.mk op set [a] mn mx md n neg) (k+1))] 0])=some (.pt [giA (.round (.mk op set [a] mn mx md n neg) (k+1))],hp4 b0 K A E++[x0,x1,x2,.row 1 [giA (.round (.mk op set [a] mn mx md n neg) (k+1))] 1]):=fun A E x0 x1 x2=>by rw[QB _ (g3 _ _ _),z3];rfl
 have hpush:=fun A B x tt=>FQ b0 K A O J x B tt (by omega);have hxc:=HE (.round (.mk op set [a] mn mx md n neg) (k+1));have hxo:=Qa (.round (.mk op set [a] mn mx md n neg) (k+1));by_cases h3:md=1
 ·rw[if_pos h3]at h;subst h3;simp only[Option.some.injEq,Prod.mk.injEq]at h;obtain⟨rfl,rfl,rfl⟩:=h;refine⟨J.drop 1,CV hJ 1,?_⟩;have hr:=hret (⟨i,cs,.re a::.moved (.mk op set [a] mn mx 1 n neg) (k+1) i::g⟩::O) _ (CV hJ 1) ⟨i,cs,g⟩;have hp1:=fun A B tt=>hpush A B ⟨i,cs,.re a::.moved (.mk op set [a] mn mx 1 n neg) (k+1) i::g⟩ tt;refine AO (pol:=pol1) Tryz.func164 rfl rfl rfl rfl (AL _ _ 0 rfl) ?_;simp only[qA,isSome_some];clear hpush eM;generalize giA (.round (.mk op set [a] mn mx 1 n neg) (k+1))=X at *;simp only[hpS]at *;generalize (Pt.mk i cs (.re a::.moved (.mk op set [a] mn mx 1 n neg) (k+1) i::g)::O).reverse.map ptA++J.drop 1=E1 at *;generalize (Pt.mk i cs (.re a::.moved (.mk op set [a] mn mx 1 n neg) (k+1) i::g)::O).length+(J.drop 1).length=L1 at *;generalize (Pt.mk i cs (.re a::.moved (.mk op set [a] mn mx 1 n neg) (k+1) i::g)::O).length=n1 at *;generalize O.reverse.map ptA++J=E0 at *;generalize O.length+J.length=L0 at *;generalize O.length=n0 at *;by_cases h2a:0<=mx
  ·have h2b:¬ mx<=k:=fun e=>h2 ⟨h2a,e⟩;simp +contextual (disch:=omega) only[Tryz.f164,Iv,go_sem,simprocAttr,IZ,↓AD,↓AC,↓AB,↓AA,hlen,hw,h135,h148,h100,f0,f13,hp1,h1,h2a,h2b,hal,hxc,hxo,hg41,hg42,hg43,z42,z43,sameAt_refl,Ag,g0,g1,g2,g3,g4,g5,g6,z0,z1,z2,z3,z4,z5,z6,A5,Ao,Am,An,BT,BV,BU,BW,A4,A6,A7,AQ,Ah,Aj,Ac,Aa,Ab,A0,Ax,A1,A3,Ak,Al,append_assoc,cons_append,nil_append,length_append,length_cons,length_nil];repeat' (first|intro _|apply And.intro|(unfold dOk;kernel_rfl)|exact St.beq_refl _|(show altO _ _ _ _=true;kernel_rfl)|(show (_||_)=true;kernel_rfl)|(show (_&&_)=true;kernel_rfl))
   exact hr _
  ·simp +contextual (disch:=omega) only[Tryz.f164,Iv,go_sem,simprocAttr,IZ,↓AD,↓AC,↓AB,↓AA,hlen,hw,h135,h148,h100,f0,f13,hp1,h1,h2a,hal,hxc,hxo,hg41,hg42,hg43,z42,z43,sameAt_refl,Ag,g0,g1,g2,g3,g4,g5,g6,z0,z1,z2,z3,z4,z5,z6,A5,Ao,Am,An,BT,BV,BU,BW,A4,A6,A7,AQ,Ah,Aj,Ac,Aa,Ab,A0,Ax,A1,A3,Ak,Al,append_assoc,cons_append,nil_append,length_append,length_cons,length_nil];repeat' (first|intro _|apply And.intro|(unfold dOk;kernel_rfl)|exact St.beq_refl _|(show altO _ _ _ _=true;kernel_rfl)|(show (_||_)=true;kernel_rfl)|(show (_&&_)=true;kernel_rfl))
   exact hr _
 ·rw[if_neg h3]at h;simp only[Option.some.injEq,Prod.mk.injEq]at h;obtain⟨rfl,rfl,rfl⟩:=h;refine⟨J.drop 1,CV hJ 1,?_⟩;have hr:=hret (⟨i,cs,g⟩::O) _ (CV hJ 1) ⟨i,cs,.re a::.moved (.mk op set [a] mn mx md n neg) (k+1) i::g⟩;have hp1:=fun A B tt=>hpush A B ⟨i,cs,g⟩ tt;refine AO (pol:=pol1) Tryz.func164 rfl rfl rfl rfl (AL _ _ 0 rfl) ?_;simp only[qA,isSome_some];clear hpush eM;generalize giA (.round (.mk op set [a] mn mx md n neg) (k+1))=X at *;simp only[hpS]at *;generalize (Pt.mk i cs g::O).reverse.map ptA++J.drop 1=E1 at *;generalize (Pt.mk i cs g::O).length+(J.drop 1).length=L1 at *;generalize (Pt.mk i cs g::O).length=n1 at *;generalize O.reverse.map ptA++J=E0 at *;generalize O.length+J.length=L0 at *;generalize O.length=n0 at *;by_cases h2a:0<=mx
  ·have h2b:¬ mx<=k:=fun e=>h2 ⟨h2a,e⟩;simp +contextual (disch:=omega) only[Tryz.f164,Iv,go_sem,simprocAttr,IZ,↓AD,↓AC,↓AB,↓AA,hlen,hw,h135,h148,h100,f0,f13,hp1,h1,h2a,h2b,h3,hal,hxc,hxo,hg41,hg42,hg43,z42,z43,sameAt_refl,Ag,g0,g1,g2,g3,g4,g5,g6,z0,z1,z2,z3,z4,z5,z6,A5,Ao,Am,An,BT,BV,BU,BW,A4,A6,A7,AQ,Ah,Aj,Ac,Aa,Ab,A0,Ax,A1,A3,Ak,Al,append_assoc,cons_append,nil_append,length_append,length_cons,length_nil];repeat' (first|intro _|apply And.intro|(unfold dOk;kernel_rfl)|exact St.beq_refl _|(show altO _ _ _ _=true;kernel_rfl)|(show (_||_)=true;kernel_rfl)|(show (_&&_)=true;kernel_rfl))
   exact hr _
  ·simp +contextual (disch:=omega) only[Tryz.f164,Iv,go_sem,simprocAttr,IZ,↓AD,↓AC,↓AB,↓AA,hlen,hw,h135,h148,h100,f0,f13,hp1,h1,h2a,h3,hal,hxc,hxo,hg41,hg42,hg43,z42,z43,sameAt_refl,Ag,g0,g1,g2,g3,g4,g5,g6,z0,z1,z2,z3,z4,z5,z6,A5,Ao,Am,An,BT,BV,BU,BW,A4,A6,A7,AQ,Ah,Aj,Ac,Aa,Ab,A0,Ax,A1,A3,Ak,Al,append_assoc,cons_append,nil_append,length_append,length_cons,length_nil];repeat' (first|intro _|apply And.intro|(unfold dOk;kernel_rfl)|exact St.beq_refl _|(show altO _ _ _ _=true;kernel_rfl)|(show (_||_)=true;kernel_rfl)|(show (_&&_)=true;kernel_rfl))
   exact hr _
end
section
attribute [local go_sem] evAppend
theorem Eu (q:Option Pt) (b:Bool):∀ m,3<=m->AV.under m (.tup [qA q,.bool b])=true:=by
 cases q with
 | none=>exact fun m hm=>rfl
 | some p=>exact FL p b
theorem Mg (q:Option Pt) (b:Bool) (H:List MB):fz (.tup [qA q,.bool b]) H=some (.tup [qA q,.bool b],H):=by
 cases q with
 | none=>rfl
 | some p=>exact Mh p b H
theorem MV (q:Option Pt):∃ a b c,qA q=.agg [a,b,c]/\a.ok=true/\b.ok=true/\c.ok=true:=by
 cases q with
 | none=>exact⟨_,_,_,rfl,rfl,rfl,rfl⟩
 | some p=>exact⟨_,_,_,rfl,rfl,rfl,Ah _⟩
theorem s183 (b0:MB) (K:List MB) {pc:List AV} (hpc:AV.plainL pc=true) (t:List Int) (st:Int) (s F:Nat) (hF:F<=1099511627776) (O:List Pt) (J:List AV) (hJ:∀ m,3<=m->AV.underL m J=true) (hO:O.length<=2000000000)
  (r:Re) (k:Int) (a:Nat) (p:Pt) (hi:p.i<=1000000) (q:Option Pt) (O':List Pt) (s':Nat) (h:callM t F (.moved r k a) p O s=some (q,O',s')) :
  ∃ J',(∀ m,3<=m->AV.underL m J' = true)/\call Pg pol1 165 [NV p.i,cpA p.c,todoA p.g,.pt [NV a],.pt [giA (.round r k)]] (hpS b0 K pc t st s F O J) =
    some (.tup [qA q,.bool q.isSome],hpS b0 K pc t st s' F O' J'):=by
 obtain⟨N,hN⟩:∃ N,K.length+4=N:=⟨_,rfl⟩;obtain⟨hlen,g0,g1,g2,g3,g4,g5,g6,z0,z1,z2,z3,z4,z5,z6⟩:=ownM b0 hN;simp only[callM]at h;by_cases e:p.i=a
 ·rw[if_pos e]at h;simp only[Option.some.injEq,Prod.mk.injEq]at h;obtain⟨rfl,rfl,rfl⟩:=h;refine⟨J,hJ,?_⟩;have hr:=fun B=>Gs (f:=165) rfl rfl (b0:=b0) (K:=K) (B:=B) hpc (t:=t) (st:=st) (s:=s) (s':=s) (F:=F) (O:=O) (O':=O) (J:=J) (J':=J) hJ (Mg none false) (Eu none false);refine AO (pol:=pol1) Tryz.func165 rfl rfl rfl rfl (AL _ _ 0 rfl) ?_;simp only[hpS,isSome_none]at *;generalize O.reverse.map ptA++J=E0 at *;generalize O.length+J.length=L0 at *;generalize O.length=n0 at *;have e1:((p.i:Int)=(a:Int))=True:=eq_true (by omega);generalize giA (.round r k)=X at *;simp +contextual (disch:=omega) only[Tryz.f165,Qc,go_sem,simprocAttr,QU,↓AD,↓AC,↓AB,↓AA,hlen,e1,hg41,hg42,hg43,z42,z43,sameAt_refl,Ag,g0,g1,g2,g3,g4,g5,g6,z0,z1,z2,z3,z4,z5,z6,A5,Ao,Am,An,BT,BV,BU,BW,A4,A6,A7,AQ,Ah,Aj,Ac,Aa,Ab,A0,Ax,A1,A3,Ak,Al,append_assoc,cons_append,nil_append,length_append,length_cons,length_nil];repeat' (first|intro _|apply And.intro|(unfold dOk;kernel_rfl)|exact St.beq_refl _|(show altO _ _ _ _=true;kernel_rfl)|(show (_||_)=true;kernel_rfl)|(show (_&&_)=true;kernel_rfl))
  exact hr _
 ·rw[if_neg e]at h;obtain⟨op,set,kids,mn,mx,md,n,neg⟩:=r;obtain⟨J',hJ',hc⟩:=s182 b0 (K++[.row 3 [pt0] 0]) hpc t st s F hF O J hJ hO op set kids mn mx md n neg k p hi q O' s' h;refine⟨J',hJ',?_⟩;have hr:=fun B=>Gs (f:=165) rfl rfl (b0:=b0) (K:=K) (B:=B) hpc (t:=t) (st:=st) (s:=s) (s':=s') (F:=F) (O:=O) (O':=O') (J:=J) (J':=J') hJ' (Mg q q.isSome) (Eu q q.isSome)
  have hc':call Pg pol1 164 [NV p.i,cpA p.c,todoA p.g,.pt [.rf 2 1 0 0],.pt [.pt (reC (.mk op set kids mn mx md n neg))],.pt [I k]] (hpS b0 K pc t st s F O J++[.row 3 [pt0] 0]) =
   some (.tup [qA q,.bool q.isSome],hpS b0 K pc t st s' F O' J'++[.row 3 [pt0] 0]):=hc
  refine AO (pol:=pol1) Tryz.func165 rfl rfl rfl rfl (AL _ _ 0 rfl) ?_;have e1:((p.i:Int)=(a:Int))=False:=eq_false (by omega);obtain⟨x,y,z,hq,hx,hy,hz⟩:=MV q;have eG:giA (.round (.mk op set kids mn mx md n neg) k)=.clo 164 [.pt [.rf 2 1 0 0],.pt [.pt (reC (.mk op set kids mn mx md n neg))],.pt [I k]]:=rfl;rw[eG];rw[hq]at hr hc' |-;generalize reC (.mk op set kids mn mx md n neg)=c at *;simp only[hpS]at *;generalize O.reverse.map ptA++J=E0 at *;generalize O.length+J.length=L0 at *;generalize O.length=n0 at *;generalize O'.reverse.map ptA++J' = E1 at *;generalize O'.length+J'.length=L1 at *;generalize O'.length=n1 at *;simp +contextual (disch:=omega) only[Tryz.f165,Qc,go_sem,simprocAttr,QU,↓AD,↓AC,↓AB,↓AA,hlen,e1,hc',hx,hy,hz,hg41,hg42,hg43,z42,z43,sameAt_refl,Ag,g0,g1,g2,g3,g4,g5,g6,z0,z1,z2,z3,z4,z5,z6,A5,Ao,Am,An,BT,BV,BU,BW,A4,A6,A7,AQ,Ah,Aj,Ac,Aa,Ab,A0,Ax,A1,A3,Ak,Al,append_assoc,cons_append,nil_append,length_append,length_cons,length_nil];repeat' (first|intro _|apply And.intro|(unfold dOk;kernel_rfl)|exact St.beq_refl _|(show altO _ _ _ _=true;kernel_rfl)|(show (_||_)=true;kernel_rfl)|(show (_&&_)=true;kernel_rfl))
  exact hr _
theorem PK {b0:MB}{K:List MB} (hU:∀ n,K.length+4<=n->(b0::K).all (MB.under n)=true) {pc:List AV} (hpc:AV.plainL pc=true) (t:List Int) (st:Int) (s F:Nat) (O:List Pt) (J:List AV) (hJ:∀ m,3<=m->AV.underL m J=true):AllU (hpS b0 K pc t st s F O J):=by
 intro n hn;have hn':K.length+4<=n:=hn;have h1:=hU n hn';have h2:=CZ hpc t (O.length+J.length) O.length st s F n (by omega);have h3:=CX n (by omega) O J hJ;simp only[all_cons,Bool.and_eq_true]at h1;have hm:MB.under n (.row 8 [mcA pc t (O.length+J.length) O.length st s F] 0)=true:=h2;have hE:MB.under n (.row 3 (O.reverse.map ptA++J) 0)=true:=h3;have ho:MB.under n (.mp (.int .i64) opsA)=true:=rfl;simp only[hpS,hp4,all_cons,h1.1,h1.2,hm,hE,ho,Bool.and_true]
theorem sOp (b0:MB) (K:List MB) (hU:∀ n,K.length+4<=n->(b0::K).all (MB.under n)=true) {pc:List AV} (hpc:AV.plainL pc=true) (t:List Int) (ht:t.length<=1000000) (st:Int) (s F:Nat) (O:List Pt) (J:List AV) (hJ:∀ m,3<=m->AV.underL m J=true) (hO:O.length<=2000000000)
  (r:Re) (hw:r.wt<=1000) (p:Pt) (q:Option Pt) (O':List Pt) (h:opM t r p O=some (q,O')) :
  ∃(J':List AV) (f:Nat),(∀ m,3<=m->AV.underL m J' = true)/\findMp (I r.op) opsA=some (.clo f [])/\(f=1000000000)=False/\call Pg pol1 f [.rf 2 1 0 0,.pt (reC r),ptA p] (hpS b0 K pc t st s F O J) =
   some (.tup [qA q,.bool q.isSome],hpS b0 K pc t st s F O' J'):=by
 obtain⟨op,set,kids,mn,mx,md,n,neg⟩:=r;rw[Re.wt]at hw;have hkl:=Re.wtL_len kids;have h3:3<=(hpS b0 K pc t st s F O J).length:=by simp[hpS,hp4]
 simp only[opM]at h;simp only[Re.op];split at h
 ·rename_i e;subst e;simp only[Option.some.injEq,Prod.mk.injEq]at h;obtain⟨rfl,rfl⟩:=h;exact⟨J,112,hJ,rfl,by decide,s122 _ p _ h3⟩
 split at h
 ·rename_i e;subst e;have hc:=s123 set (by omega) kids mn mx md n neg p t ht (hpS b0 K pc t st s F O J) h3 (PK hU hpc t st s F O J hJ) rfl;cases hx:t[p.i]? with
  | none=>
    rw[hx]at h hc;simp only[Option.some.injEq,Prod.mk.injEq]at h;obtain⟨rfl,rfl⟩:=h;exact⟨J,113,hJ,rfl,by decide,hc⟩
  | some x=>
    rw[hx]at h hc;simp only at h hc;cases hh:hasSpan set x with
    | true=>
      rw[hh]at hc;rw[if_pos hh]at h;simp only[Option.some.injEq,Prod.mk.injEq]at h;obtain⟨rfl,rfl⟩:=h;exact⟨J,113,hJ,rfl,by decide,hc⟩
    | false=>
      rw[hh]at hc;rw[if_neg (by simp[hh])]at h;simp only[Option.some.injEq,Prod.mk.injEq]at h;obtain⟨rfl,rfl⟩:=h;exact⟨J,113,hJ,rfl,by decide,hc⟩
 split at h
 ·rename_i e;subst e;simp only[Option.some.injEq,Prod.mk.injEq]at h;obtain⟨rfl,rfl⟩:=h;exact⟨J,114,hJ,rfl,by decide,s124 set kids (by omega) mn mx md n neg p _ h3⟩
 split at h
 ·rename_i e;subst e;cases kids with
  | nil=>simp at h
  | cons a ks=>
    simp only[Option.some.injEq,Prod.mk.injEq]at h;obtain⟨rfl,rfl⟩:=h;simp only[length_cons]at hkl;exact⟨_,115,CV hJ _,rfl,by decide,s125 b0 K hpc t st s F O J hJ hO set a ks (by omega) mn mx md n neg p⟩
 split at h
 ·rename_i e;subst e;split at h
  ·simp at h
  rename_i hmd;simp only[Option.some.injEq,Prod.mk.injEq]at h;obtain⟨rfl,rfl⟩:=h;exact⟨J,116,hJ,rfl,by decide,s126 set kids mn mx md n neg hmd p _ h3⟩
 split at h
 ·rename_i e;subst e;cases kids with
  | nil=>simp at h
  | cons a ks=>
    cases ks with
    | cons b ks=>simp at h
    | nil=>
      simp only at h;split at h
      ·simp only[Option.some.injEq,Prod.mk.injEq]at h;obtain⟨rfl,rfl⟩:=h;exact⟨J,117,hJ,rfl,by decide,s127 set a mn mx md n neg p _ h3⟩
      ·simp at h
 ·simp at h
theorem PC (t:List Int) (F:Nat) (op:Int) (set:List (Int×Int)) (kids:List Re) (mn mx md n:Int) (neg:Bool) (p:Pt) (O:List Pt) (s:Nat):callM t F (.re (.mk op set kids mn mx md n neg)) p O s =
 if(Re.mk op set kids mn mx md n neg).wt<=1000 then(if op=4 then(opM t (.mk op set kids mn mx md n neg) p O).map fun q=>(q.1,q.2,s) else if s<F then(opM t (.mk op set kids mn mx md n neg) p O).map fun q=>(q.1,q.2,s+1) else none) else none:=rfl
theorem s134 (b0:MB) (K:List MB) (hU:∀ n,K.length+4<=n->(b0::K).all (MB.under n)=true) {pc:List AV} (hpc:AV.plainL pc=true) (t:List Int) (ht:t.length<=1000000) (st:Int) (s F:Nat) (hF:F<=1099511627776) (O:List Pt) (J:List AV) (hJ:∀ m,3<=m->AV.underL m J=true) (hO:O.length<=2000000000)
  (r:Re) (p:Pt) (q:Option Pt) (O':List Pt) (s':Nat) (h:callM t F (.re r) p O s=some (q,O',s')) :
  ∃ J',(∀ m,3<=m->AV.underL m J' = true)/\call Pg pol1 124 [NV p.i,cpA p.c,todoA p.g,.pt [.pt (reC r)],.pt [.rf 2 1 0 0]] (hpS b0 K pc t st s F O J) =
    some (.tup [qA q,.bool q.isSome],hpS b0 K pc t st s' F O' J'):=by
 obtain⟨N,hN⟩:∃ N,K.length+4=N:=⟨_,rfl⟩;obtain⟨hlen,g0,g1,g2,g3,g4,g5,g6,z0,z1,z2,z3,z4,z5,z6⟩:=ownM b0 hN;have hU1:∀ n,(K++[MB.row 3 [pt0] 0]).length+4<=n->(b0::(K++[MB.row 3 [pt0] 0])).all (MB.under n)=true:=fun n hn=>by
  have:=hU n (by simp at hn;omega);simp only[all_cons,all_append,Bool.and_eq_true]at this |-;exact⟨this.1,this.2,rfl,rfl⟩
 obtain⟨op,set,kids,mn,mx,md,n,neg⟩:=r;obtain⟨i,cs,g⟩:=p;rw[PC]at h;by_cases hw:(Re.mk op set kids mn mx md n neg).wt<=1000
 case neg=>rw[if_neg hw]at h;cases h
 rw[if_pos hw]at h
 have key:∀ s1 p1,opM t (.mk op set kids mn mx md n neg) ⟨i,cs,g⟩ O=some p1->∃(J':List AV) (f:Nat),(∀ m,3<=m->AV.underL m J' = true)/\findMp (I (Re.mk op set kids mn mx md n neg).op) opsA=some (.clo f [])/\(f=1000000000)=False/\call Pg pol1 f [.rf 2 1 0 0,.pt (reC (.mk op set kids mn mx md n neg)),ptA ⟨i,cs,g⟩] (hpS b0 K pc t st s1 F O J++[.row 3 [pt0] 0]) =
  some (.tup [qA p1.1,.bool p1.1.isSome],hpS b0 K pc t st s1 F p1.2 J'++[.row 3 [pt0] 0]):=fun s1 p1 hp=>sOp b0 (K++[MB.row 3 [pt0] 0]) hU1 hpc t ht st s1 F O J hJ hO _ hw _ p1.1 p1.2 hp
 simp only[Re.op]at key;rw[Bh]at key |-;have hr:=fun s' O' (J':List AV) (hJ':∀ m,3<=m->AV.underL m J' = true) q B=>Gs (f:=124) rfl rfl (b0:=b0) (K:=K) (B:=B) hpc (t:=t) (st:=st) (s:=s) (s':=s') (F:=F) (O:=O) (O':=O') (J:=J) (J':=J') hJ' (Mg q q.isSome) (Eu q q.isSome);by_cases h4:op=4
 ·rw[if_pos h4]at h;cases ho:opM t (.mk op set kids mn mx md n neg) ⟨i,cs,g⟩ O with
  | none=>rw[ho]at h;simp at h
  | some p1=>
    rw[ho]at h;obtain⟨q1,O1⟩:=p1;simp only[map_some,Option.some.injEq,Prod.mk.injEq]at h;obtain⟨rfl,rfl,rfl⟩:=h;obtain⟨J',f,hJ',hfi,hf0,hc⟩:=key s _ ho;refine⟨J',hJ',?_⟩;have hr:=hr s O1 J' hJ' q1;refine AO (pol:=pol1) Tryz.func124 rfl rfl rfl rfl (AL _ _ 0 rfl) ?_;obtain⟨x,y,z,hq,hx,hy,hz⟩:=MV q1;subst h4;simp only at hc;rw[hq]at hr hc |-;simp only[hpS]at *;generalize O.reverse.map ptA++J=E0 at *;generalize O.length+J.length=L0 at *;generalize O.length=n0 at *;generalize O1.reverse.map ptA++J' = E1 at *;generalize O1.length+J'.length=L1 at *;generalize O1.length=n1 at *;simp +contextual (disch:=omega) only[Tryz.f124,Qf,go_sem,simprocAttr,QX,↓AD,↓AC,↓AB,↓AA,hlen,hfi,hf0,hc,hx,hy,hz,hg41,hg42,hg43,z42,z43,sameAt_refl,Ag,g0,g1,g2,g3,g4,g5,g6,z0,z1,z2,z3,z4,z5,z6,A5,Ao,Am,An,BT,BV,BU,BW,A4,A6,A7,AQ,Ah,Aj,Ac,Aa,Ab,A0,Ax,A1,A3,Ak,Al,append_assoc,cons_append,nil_append,length_append,length_cons,length_nil];repeat' (first|intro _|apply And.intro|(unfold dOk;kernel_rfl)|exact St.beq_refl _|(show altO _ _ _ _=true;kernel_rfl)|(show (_||_)=true;kernel_rfl)|(show (_&&_)=true;kernel_rfl))
    exact hr _
 ·rw[if_neg h4]at h;by_cases hs:s<F
  case neg=>rw[if_neg hs]at h;cases h
  rw[if_pos hs]at h;have h135:∀ B,call Pg pol1 125 [.rf 2 1 0 0] (hpS b0 K pc t st s F O J++B)=some (.bool true,hpS b0 K pc t st (s+1) F O J++B):=fun B=>s135 b0 (K++B) hpc t _ _ st s F _ (CX _ (by simp) _ _ hJ) hs hF;cases ho:opM t (.mk op set kids mn mx md n neg) ⟨i,cs,g⟩ O with
  | none=>rw[ho]at h;simp at h
  | some p1=>
    rw[ho]at h;obtain⟨q1,O1⟩:=p1;simp only[map_some,Option.some.injEq,Prod.mk.injEq]at h;obtain⟨rfl,rfl,rfl⟩:=h;obtain⟨J',f,hJ',hfi,hf0,hc⟩:=key (s+1) _ ho;refine⟨J',hJ',?_⟩;have hr:=hr (s+1) O1 J' hJ' q1;refine AO (pol:=pol1) Tryz.func124 rfl rfl rfl rfl (AL _ _ 0 rfl) ?_;obtain⟨x,y,z,hq,hx,hy,hz⟩:=MV q1;have h4':(op=4)=False:=eq_false h4;simp only at hc;rw[hq]at hr hc |-;simp only[hpS]at *;generalize O.reverse.map ptA++J=E0 at *;generalize O.length+J.length=L0 at *;generalize O.length=n0 at *;generalize O1.reverse.map ptA++J' = E1 at *;generalize O1.length+J'.length=L1 at *;generalize O1.length=n1 at *;simp +contextual (disch:=omega) only[Tryz.f124,Qf,go_sem,simprocAttr,QX,↓AD,↓AC,↓AB,↓AA,hlen,h135,h4',hfi,hf0,hc,hx,hy,hz,hg41,hg42,hg43,z42,z43,sameAt_refl,Ag,g0,g1,g2,g3,g4,g5,g6,z0,z1,z2,z3,z4,z5,z6,A5,Ao,Am,An,BT,BV,BU,BW,A4,A6,A7,AQ,Ah,Aj,Ac,Aa,Ab,A0,Ax,A1,A3,Ak,Al,append_assoc,cons_append,nil_append,length_append,length_cons,length_nil];repeat' (first|intro _|apply And.intro|(unfold dOk;kernel_rfl)|exact St.beq_refl _|(show altO _ _ _ _=true;kernel_rfl)|(show (_||_)=true;kernel_rfl)|(show (_&&_)=true;kernel_rfl))
    exact hr _
end
section
attribute [local go_sem] evAppend AV.cells AV.ok
def PtOk (t:List Int) (p:Pt):Prop:=p.i<=t.length/\p.c.length=18
theorem IS {t:List Int}{F:Nat}{r:Re}{k:Int}{p:Pt}{O O':List Pt}{s s':Nat}{q:Option Pt} (h:roundM F r k p O s=some (q,O',s')) (hp:PtOk t p) (hO:∀ x∈O,PtOk t x) :
  (∀ x,q=some x->PtOk t x)/\(∀ x∈O',PtOk t x)/\O'.length+1000*s<=O.length+1000*s'/\s'<=F:=by
 obtain⟨op,set,kids,mn,mx,md,n,neg⟩:=r;unfold roundM at h;simp only at h;split at h
 ·split at h
  ·rename_i hc;split at h
   ·simp only[Option.some.injEq,Prod.mk.injEq]at h;obtain⟨rfl,rfl,rfl⟩:=h;exact⟨fun x hx=>by cases hx;exact hp,hO,by omega,by omega⟩
   split at h
   ·simp only[Option.some.injEq,Prod.mk.injEq]at h;obtain⟨rfl,rfl,rfl⟩:=h;exact⟨fun x hx=>by cases hx;exact hp,hO,by omega,by omega⟩
   split at h
   ·simp only[Option.some.injEq,Prod.mk.injEq]at h;obtain⟨rfl,rfl,rfl⟩:=h;refine⟨fun x hx=>by cases hx;exact hp,fun x hx=>?_,by simp;omega,by omega⟩;rcases mem_cons.1 hx with rfl|hx
    ·exact hp
    ·exact hO x hx
   ·simp only[Option.some.injEq,Prod.mk.injEq]at h;obtain⟨rfl,rfl,rfl⟩:=h;refine⟨fun x hx=>by cases hx;exact hp,fun x hx=>?_,by simp;omega,by omega⟩;rcases mem_cons.1 hx with rfl|hx
    ·exact hp
    ·exact hO x hx
  ·simp at h
 ·simp at h
theorem OK {t:List Int}{r:Re} (hw:r.wt<=1000) {p:Pt}{O O':List Pt}{q:Option Pt} (h:opM t r p O=some (q,O')) (hp:PtOk t p) (hO:∀ x∈O,PtOk t x) :
  (∀ x,q=some x->PtOk t x)/\(∀ x∈O',PtOk t x)/\O'.length<=O.length+1000/\(r.op=4->O'.length=O.length):=by
 obtain⟨op,set,kids,mn,mx,md,n,neg⟩:=r;rw[Re.wt]at hw;have hkl:=Re.wtL_len kids;simp only[opM]at h;simp only[Re.op];have same:∀ x:Pt,PtOk t x->some x=q/\O=O'->(∀ x,q=some x->PtOk t x)/\(∀ x∈O',PtOk t x)/\O'.length<=O.length+1000/\(op=4->O'.length=O.length):=fun x hx ⟨h1,h2⟩=>by
  subst h1;subst h2;exact⟨fun y hy=>(by cases hy;exact hx),hO,by omega,fun _=>rfl⟩
 have dead:none=q/\O=O'->(∀ x,q=some x->PtOk t x)/\(∀ x∈O',PtOk t x)/\O'.length<=O.length+1000/\(op=4->O'.length=O.length):=fun⟨h1,h2⟩=>by
  subst h1;subst h2;exact⟨fun y hy=>(by cases hy),hO,by omega,fun _=>rfl⟩
 split at h
 ·simp only[Option.some.injEq,Prod.mk.injEq]at h;exact same p hp h
 split at h
 ·split at h
  ·rename_i x hx;have:=(List.getElem?_eq_some_iff.1 hx).1;split at h
   ·simp only[Option.some.injEq,Prod.mk.injEq]at h;refine same _ ?_ h;exact⟨this,hp.2⟩
   ·simp only[Option.some.injEq,Prod.mk.injEq]at h;exact dead h
  ·simp only[Option.some.injEq,Prod.mk.injEq]at h;exact dead h
 split at h
 ·simp only[Option.some.injEq,Prod.mk.injEq]at h;refine same _ ?_ h;exact⟨hp.1,hp.2⟩
 split at h
 ·rename_i e;subst e;split at h
  ·rename_i a ks;simp only[Option.some.injEq,Prod.mk.injEq]at h;obtain⟨rfl,rfl⟩:=h;simp only[length_cons]at hkl;refine⟨fun x hx=>by cases hx;exact hp,fun x hx=>?_,by simp;omega,fun e=>absurd e (by decide)⟩;rcases List.mem_append.1 hx with hx|hx
   ·obtain⟨k,_,rfl⟩:=List.mem_map.1 hx;exact hp
   ·exact hO x hx
  ·simp at h
 split at h
 ·split at h
  ·simp at h
  ·simp only[Option.some.injEq,Prod.mk.injEq]at h;refine same _ ?_ h;exact⟨hp.1,hp.2⟩
 split at h
 ·split at h
  ·split at h
   ·simp only[Option.some.injEq,Prod.mk.injEq]at h;refine same _ ?_ h;exact⟨hp.1,hp.2⟩
   ·simp at h
  ·simp at h
 ·simp at h
theorem PD {t:List Int}{F:Nat}{g:GI}{p:Pt}{O O':List Pt}{s s':Nat}{q:Option Pt} (h:callM t F g p O s=some (q,O',s')) (hp:PtOk t p) (hO:∀ x∈O,PtOk t x) (hs:s<=F) :
  (∀ x,q=some x->PtOk t x)/\(∀ x∈O',PtOk t x)/\O'.length+1000*s<=O.length+1000*s'/\s'<=F:=by
 cases g with
 | re r=>
   simp only[callM]at h;split at h
   ·rename_i hw;split at h
    ·rename_i h4;cases ho:opM t r p O with
     | none=>rw[ho]at h;simp at h
     | some p1=>
       rw[ho]at h;simp only[map_some,Option.some.injEq,Prod.mk.injEq]at h;obtain⟨rfl,rfl,rfl⟩:=h;obtain⟨h1,h2,h3,h5⟩:=OK hw ho hp hO;have h5:=h5 h4;exact⟨h1,h2,by omega,hs⟩
    ·rename_i h4;split at h
     ·rename_i hs1;cases ho:opM t r p O with
      | none=>rw[ho]at h;simp at h
      | some p1=>
        rw[ho]at h;simp only[map_some,Option.some.injEq,Prod.mk.injEq]at h;obtain⟨rfl,rfl,rfl⟩:=h;obtain⟨h1,h2,h3,_⟩:=OK hw ho hp hO;exact⟨h1,h2,by omega,hs1⟩
     ·simp at h
   ·simp at h
 | round r k=>exact IS h hp hO
 | moved r k a=>
   simp only[callM]at h;split at h
   ·simp only[Option.some.injEq,Prod.mk.injEq]at h;obtain⟨rfl,rfl,rfl⟩:=h;exact⟨fun x hx=>(by cases hx),hO,by omega,hs⟩
   ·exact IS h hp hO
 | done r a=>
   obtain⟨op,set,kids,mn,mx,md,n,neg⟩:=r;simp only[callM]at h;split at h
   ·simp only[Option.some.injEq,Prod.mk.injEq]at h;obtain⟨rfl,rfl,rfl⟩:=h;exact⟨fun x hx=>by cases hx;exact⟨hp.1,by rw[Gp];exact hp.2⟩,hO,by omega,hs⟩
   ·simp at h
theorem R3 (b0:MB) (K:List MB) (hU:∀ n,K.length+4<=n->(b0::K).all (MB.under n)=true) {pc:List AV} (hpc:AV.plainL pc=true) (t:List Int) (ht:t.length<=1000000) (st:Int) (s F:Nat) (hF:F<=1099511627776) (O:List Pt) (J:List AV) (hJ:∀ m,3<=m->AV.underL m J=true) (hO:O.length<=2000000000)
  (g:GI) (p:Pt) (hp:PtOk t p) (q:Option Pt) (O':List Pt) (s':Nat) (h:callM t F g p O s=some (q,O',s')) :
  ∃(J':List AV) (f:Nat) (cs:List AV),(∀ m,3<=m->AV.underL m J' = true)/\giA g=.clo f cs/\(f=1000000000)=False/\call Pg pol1 f (NV p.i::cpA p.c::todoA p.g::cs) (hpS b0 K pc t st s F O J) =
   some (.tup [qA q,.bool q.isSome],hpS b0 K pc t st s' F O' J'):=by
 have hi:p.i<=1000000:=Nat.le_trans hp.1 ht;cases g with
 | re r=>
   obtain⟨J',h1,h2⟩:=s134 b0 K hU hpc t ht st s F hF O J hJ hO r p q O' s' h;exact⟨J',_,_,h1,rfl,by decide,h2⟩
 | round r k=>
   obtain⟨op,set,kids,mn,mx,md,n,neg⟩:=r;obtain⟨J',h1,h2⟩:=s182 b0 K hpc t st s F hF O J hJ hO op set kids mn mx md n neg k p hi q O' s' h;exact⟨J',_,_,h1,rfl,by decide,h2⟩
 | moved r k a=>
   obtain⟨J',h1,h2⟩:=s183 b0 K hpc t st s F hF O J hJ hO r k a p hi q O' s' h;exact⟨J',_,_,h1,rfl,by decide,h2⟩
 | done r a=>
   obtain⟨op,set,kids,mn,mx,md,n,neg⟩:=r;simp only[callM]at h;split at h
   ·rename_i hn;simp only[Option.some.injEq,Prod.mk.injEq]at h;obtain⟨rfl,rfl,rfl⟩:=h;exact⟨J,_,_,hJ,rfl,by decide,s150 op set kids mn mx md n neg hn a p.i p.c hp.2 p.g _ (by simp[hpS,hp4])⟩
   ·simp at h
end
section
attribute [local go_sem] evAppend
theorem Ck (b0:MB) (K:List MB) (a a':AV) (E E':List AV) (B B':List MB):sameAt 1 (hp4 b0 K a E++B) (hp4 b0 K a' E'++B')=true:=by simp[sameAt,hp4,MB.beq_refl]
theorem Cj (b0:MB) (K:List MB) (a:AV) (E E':List AV) (B B':List MB):sameAt 2 (hp4 b0 K a E++B) (hp4 b0 K a E'++B')=true:=by simp[sameAt,hp4,MB.beq_refl]
theorem Ci (b0:MB) (K:List MB) (a a':AV) (E:List AV) (B B':List MB):sameAt 3 (hp4 b0 K a E++B) (hp4 b0 K a' E++B')=true:=by simp[sameAt,hp4,MB.beq_refl]
structure SI where
 m:Nat
 q:Option Pt
 O:List Pt
 s:Nat
 J:List AV
theorem s101 (b0:MB) (K:List MB) (hU:∀ n,K.length+4<=n->(b0::K).all (MB.under n)=true) {pc:List AV} (hpc:AV.plainL pc=true) (t:List Int) (ht:t.length<=1000000) (st:Int) (F:Nat) (hF:F<=1048576)
  (m:Nat) (O:List Pt) (s:Nat) (J:List AV) (hJ:∀ m,3<=m->AV.underL m J=true) (hO:∀ x∈O,PtOk t x) (hOl:O.length<=1000*s+1000) (hs:s<=F)
  (q:Option Pt) (O':List Pt) (s':Nat) (h:runM t F m none O s=some (q,O',s')) :
  ∃ J',(∀ m,3<=m->AV.underL m J' = true)/\call Pg pol1 93 [.rf 2 1 0 0,I 0] (hpS b0 K pc t st s F O J) =
    some (.tup [qA q,.bool q.isSome],hpS b0 K pc t st s' F O' J'):=by
 obtain⟨N,hN⟩:∃ N,K.length+4=N:=⟨_,rfl⟩;obtain⟨hlen,g0,g1,g2,g3,g4,g5,g6,z0,z1,z2,z3,z4,z5,z6⟩:=ownM b0 hN;have hr:=fun s' O' (J':List AV) (hJ':∀ m,3<=m->AV.underL m J' = true) q B=>Gs (f:=93) rfl rfl (b0:=b0) (K:=K) (B:=B) hpc (t:=t) (st:=st) (s:=s) (s':=s') (F:=F) (O:=O) (O':=O') (J:=J) (J':=J') hJ' (Mg q q.isSome) (Eu q q.isSome);have key:∃ r:AV×List MB,(∃ J',(∀ m,3<=m->AV.underL m J' = true)/\r=(.tup [qA q,.bool q.isSome],hpS b0 K pc t st s' F O' J'))/\call Pg pol1 93 [.rf 2 1 0 0,I 0] (hpS b0 K pc t st s F O J)=some r:=by
  refine CJ (pol:=pol1) Tryz.func93 rfl rfl rfl rfl (AL _ _ 0 rfl) ?_;have hl0:(hpS b0 K pc t st s F O J).length=N:=hlen _ _;generalize hH0:hpS b0 K pc t st s F O J=H0 at hr hl0;simp +contextual (disch:=omega) only[Tryz.f93,dd93,go_sem,simprocAttr,mu93,↓AD,↓AC,↓AB,↓AA,hl0,hg41,hg42,hg43,z42,z43,sameAt_refl,Ag,Ck,Cj,Ci,g0,g1,g2,g3,g4,g5,g6,z0,z1,z2,z3,z4,z5,z6,A5,Ao,Am,An,BT,BV,BU,BW,A4,A6,A7,AQ,Ah,Aj,Ac,Aa,Ab,A0,Ax,A1,A3,Ak,Al,append_assoc,cons_append,nil_append,length_append,length_cons,length_nil];subst hH0;have tk:∀(A:AV) (E:List AV) (a:MB) (G:List MB),(hp4 b0 K A E++a::G).take (N+1)=hp4 b0 K A E++[a]:=fun A E a G=>by rw[show hp4 b0 K A E++a::G=(hp4 b0 K A E++[a])++G by simp,take_left' (by simp[hlen])]
  have uH:∀(s:Nat) (O:List Pt) (J:List AV),(∀ m,3<=m->AV.underL m J=true)->(hpS b0 K pc t st s F O J++[MB.row 3 [pt0] 0]).all (MB.under (N+1))=true:=fun s O J hJ=>by
   have:=PK hU hpc t st s F O J hJ (N+1) (by rw[hlen];omega);rw[all_append,this];rfl
  refine Dk (σ:=Nat×List Pt×Nat×List AV) (M:=⟨some [4,1,0],some (N+1),[]⟩) (by rfl) (fun x=>(⟨75,[(4,.rf N 1 0 0),(1,I 0),(0,.rf 2 1 0 0)],hpS b0 K pc t st x.2.2.1 F x.2.1 x.2.2.2++[.row 3 [pt0] 0]⟩:St))
   (fun x=>runM t F x.1 none x.2.1 x.2.2.1=some (q,O',s')/\(∀ m,3<=m->AV.underL m x.2.2.2=true)/\(∀ y∈x.2.1,PtOk t y)/\x.2.1.length<=1000*x.2.2.1+1000/\x.2.2.1<=F) (fun x=>x.1) (m,O,s,J) ?_ ⟨h,hJ,hO,hOl,hs⟩ _ ?_
  ·rintro⟨m1,O1,s1,J1⟩ ⟨h,hJ,hO,hOl,hs⟩;simp only at h hJ hO hOl hs |-;cases m1 with
   | zero=>simp[runM]at h
   | succ m1=>
   cases O1 with
   | nil=>
     simp only[runM,Option.some.injEq,Prod.mk.injEq]at h;obtain⟨rfl,rfl,rfl⟩:=h;have hr:=hr s1 [] J1 hJ none;simp only[hpS,length_nil,List.reverse_nil,map_nil,nil_append,Nat.zero_add]at hr |-;have h00:((0:Int)<((0:Nat):Int))=False:=eq_false (by omega);generalize hL1:J1.length=L1 at *;simp +contextual (disch:=omega) only[Tryz.f93,dd93,go_sem,simprocAttr,mu93,↓AD,↓AC,↓AB,↓AA,hlen,h00,hg41,hg42,hg43,z42,z43,sameAt_refl,Ag,Ck,Cj,Ci,g0,g1,g2,g3,g4,g5,g6,z0,z1,z2,z3,z4,z5,z6,A5,Ao,Am,An,BT,BV,BU,BW,A4,A6,A7,AQ,Ah,Aj,Ac,Aa,Ab,A0,Ax,A1,A3,Ak,Al,append_assoc,cons_append,nil_append,length_append,length_cons,length_nil];repeat' (first|intro _|apply And.intro|(unfold dOk;kernel_rfl)|exact St.beq_refl _|(show altO _ _ _ _=true;kernel_rfl)|(show (_||_)=true;kernel_rfl)|(show (_&&_)=true;kernel_rfl))
     exact⟨_,⟨J1,hJ,by rw[hL1]⟩,hr _⟩
   | cons p O1=>
     simp only[runM]at h;have hp:=hO p (by simp);have hO1:∀ y∈O1,PtOk t y:=fun y hy=>hO y (List.mem_cons_of_mem _ hy);have hget:((p::O1).reverse.map ptA++J1)[O1.length]?=some (ptA p):=by simp
     have hpop:hp4 b0 K (mcA pc t ((p::O1).length+J1.length) O1.length st s1 F) ((p::O1).reverse.map ptA++J1)=hpS b0 K pc t st s1 F O1 (ptA p::J1):=by
      simp only[hpS,length_cons,List.reverse_cons,List.map_append,map_cons,map_nil,append_assoc,cons_append,nil_append];rw[show O1.length+1+J1.length=O1.length+(J1.length+1) by omega]
     have hle:O1.length+1<=(p::O1).length+J1.length:=by simp only[length_cons];omega
     have hJp:∀ m,3<=m->AV.underL m (ptA p::J1)=true:=fun m hm=>by simp only[AV.underL,Cx m hm p,hJ m hm,Bool.and_self]
     have hOl1:O1.length<=1000*s1+1000:=by simp only[length_cons]at hOl;omega
     have hw1:IntKind.i64.wrap (((O1.length+1:Nat):Int)-1)=(O1.length:Int):=by rw[i64_in]<;>omega
     have hw2:((O1.length:Int)<((O1.length+1:Nat):Int))=True:=eq_true (by omega);have hw3:((O1.length:Int)<=((O1.length+1:Nat):Int))=True:=eq_true (by omega);have hw4:((0:Int)<((O1.length+1:Nat):Int))=True:=eq_true (by omega);have hl1:((p::O1).reverse.map ptA++J1).length=(p::O1).length+J1.length:=by simp;omega
     simp only[hpS]at hpop |-;generalize (p::O1).reverse.map ptA++J1=E0 at *;generalize (p::O1).length+J1.length=L0 at *;simp only[length_cons];generalize hn0:O1.length=n0 at *;simp +contextual (disch:=omega) only[Tryz.f93,dd93,go_sem,simprocAttr,mu93,↓AD,↓AC,↓AB,↓AA,hlen,hget,hl1,hw1,hw2,hw3,hw4,Dd,hg41,hg42,hg43,z42,z43,sameAt_refl,Ag,Ck,Cj,Ci,g0,g1,g2,g3,g4,g5,g6,z0,z1,z2,z3,z4,z5,z6,A5,Ao,Am,An,BT,BV,BU,BW,A4,A6,A7,AQ,Ah,Aj,Ac,Aa,Ab,A0,Ax,A1,A3,Ak,Al,append_assoc,cons_append,nil_append,length_append,length_cons,length_nil];repeat' (first|intro _|apply And.intro|(unfold dOk;kernel_rfl)|exact St.beq_refl _|(show altO _ _ _ _=true;kernel_rfl)|(show (_||_)=true;kernel_rfl)|(show (_&&_)=true;kernel_rfl))
     refine Dk (σ:=SI) (M:=⟨some [7,6,4,1,0],none,[]⟩) (by rfl) (fun x=>(⟨75,[(7,.bool x.q.isSome),(6,.rf (N+1) 1 0 0),(4,.rf N 1 0 0),(1,I 0),(0,.rf 2 1 0 0)],hp4 b0 K (mcA pc t (x.O.length+x.J.length) x.O.length st x.s F) (x.O.reverse.map ptA++x.J)++[.row 3 [pt0] 0,.row 3 [qA x.q] 0]⟩:St))
      (fun x=>runM t F x.m x.q x.O x.s=some (q,O',s')/\x.m<=m1/\(∀ m,3<=m->AV.underL m x.J=true)/\(∀ y∈x.O,PtOk t y)/\(∀ y,x.q=some y->PtOk t y)/\x.O.length<=1000*x.s+1000/\x.s<=F) (fun x=>x.m) ⟨m1,some p,O1,s1,ptA p::J1⟩ ?_ ⟨h,Nat.le_refl _,hJp,hO1,fun y hy=>by cases hy;exact hp,by rw[<- hn0]at hOl1;exact hOl1,hs⟩ _ ?_
     ·rintro⟨m2,cur,O2,s2,J2⟩ ⟨h,hm2,hJ2,hO2,hq2,hOl2,hs2⟩;simp only at h hm2 hJ2 hO2 hq2 hOl2 hs2 |-;cases cur with
      | none=>
        simp only[isSome_none];generalize hE2:O2.reverse.map ptA++J2=E2;generalize hL2:O2.length+J2.length=L2;generalize hn2:O2.length=n2 at hL2;simp +contextual (disch:=omega) only[Tryz.f93,dd93,go_sem,simprocAttr,mu93,↓AD,↓AC,↓AB,↓AA,hlen,hg41,hg42,hg43,z42,z43,sameAt_refl,Ag,Ck,Cj,Ci,g0,g1,g2,g3,g4,g5,g6,z0,z1,z2,z3,z4,z5,z6,A5,Ao,Am,An,BT,BV,BU,BW,A4,A6,A7,AQ,Ah,Aj,Ac,Aa,Ab,A0,Ax,A1,A3,Ak,Al,append_assoc,cons_append,nil_append,length_append,length_cons,length_nil];repeat' (first|intro _|apply And.intro|(unfold dOk;kernel_rfl)|exact St.beq_refl _|(show altO _ _ _ _=true;kernel_rfl)|(show (_||_)=true;kernel_rfl)|(show (_&&_)=true;kernel_rfl))
        subst hE2 hL2 hn2;exact⟨(m2,O2,s2,J2),⟨h,hJ2,hO2,hOl2,hs2⟩,by simp only;omega,BD rfl rfl rfl (tk _ _ _ _) (by simp[AV.underL,AV.under];omega) (uH s2 O2 J2 hJ2)⟩
      | some c=>
        obtain⟨i,cs,g⟩:=c;cases m2 with
        | zero=>simp[runM]at h
        | succ m3=>
        cases g with
        | nil=>
          simp only[runM,Option.some.injEq,Prod.mk.injEq]at h;obtain⟨rfl,rfl,rfl⟩:=h;have hr:=hr s2 O2 J2 hJ2 (some ⟨i,cs,[]⟩);have eT:todoA []=.nilp:=rfl;simp only[hpS,qA,isSome_some,eT]at hr |-;generalize hE2:O2.reverse.map ptA++J2=E2 at hr |-;generalize hL2:O2.length+J2.length=L2 at hr |-;generalize hn2:O2.length=n2 at hL2 hr |-;have hnp:ofK (Value.pointer none)=.nilp:=rfl;simp +contextual (disch:=omega) only[Tryz.f93,dd93,go_sem,simprocAttr,mu93,↓AD,↓AC,↓AB,↓AA,hlen,eT,hnp,hg41,hg42,hg43,z42,z43,sameAt_refl,Ag,Ck,Cj,Ci,g0,g1,g2,g3,g4,g5,g6,z0,z1,z2,z3,z4,z5,z6,A5,Ao,Am,An,BT,BV,BU,BW,A4,A6,A7,AQ,Ah,Aj,Ac,Aa,Ab,A0,Ax,A1,A3,Ak,Al,append_assoc,cons_append,nil_append,length_append,length_cons,length_nil];repeat' (first|intro _|apply And.intro|(unfold dOk;kernel_rfl)|exact St.beq_refl _|(show altO _ _ _ _=true;kernel_rfl)|(show (_||_)=true;kernel_rfl)|(show (_&&_)=true;kernel_rfl))
          exact⟨_,⟨J2,hJ2,by rw[hL2,hE2]⟩,hr _⟩
        | cons x g=>
          simp only[runM]at h;cases hcm:callM t F x ⟨i,cs,g⟩ O2 s2 with
          | none=>rw[hcm]at h;cases h
          | some w=>
          obtain⟨q3,O3,s3⟩:=w;rw[hcm]at h;simp only at h;obtain⟨k1,k2,k3,k4⟩:=PD hcm (p:=⟨i,cs,g⟩) (show PtOk t ⟨i,cs,g⟩ from hq2 ⟨i,cs,x::g⟩ rfl) hO2 hs2;have hU2:∀ n,(K++[MB.row 3 [pt0] 0,MB.row 3 [ptA ⟨i,cs,x::g⟩] 0]).length+4<=n->(b0::(K++[MB.row 3 [pt0] 0,MB.row 3 [ptA ⟨i,cs,x::g⟩] 0])).all (MB.under n)=true:=fun n hn=>by
           have h1:=hU n (by simp at hn;omega);have h2:=Cx n (by simp at hn;omega) ⟨i,cs,x::g⟩;have h3:MB.under n (MB.row 3 [ptA ⟨i,cs,x::g⟩] 0)=true:=by simp only[MB.under,AV.underL,h2,Bool.and_true]
           have h4:MB.under n (MB.row 3 [pt0] 0)=true:=rfl;simp only[all_cons,all_append,List.all_nil,Bool.and_eq_true]at h1 |-;exact⟨h1.1,h1.2,h4,h3,trivial⟩
          obtain⟨J3,f,cls,hJ3,hg,hf0,hc⟩:=R3 b0 (K++[MB.row 3 [pt0] 0,MB.row 3 [ptA ⟨i,cs,x::g⟩] 0]) hU2 hpc t ht st s2 F (by omega) O2 J2 hJ2 (by omega) x ⟨i,cs,g⟩ (show PtOk t ⟨i,cs,g⟩ from hq2 ⟨i,cs,x::g⟩ rfl) q3 O3 s3 hcm
          have hc':call Pg pol1 f (NV i::cpA cs::todoA g::cls) (hp4 b0 K (mcA pc t (O2.length+J2.length) O2.length st s2 F) (O2.reverse.map ptA++J2)++[MB.row 3 [pt0] 0,MB.row 3 [ptA ⟨i,cs,x::g⟩] 0]) =
            some (.tup [qA q3,.bool q3.isSome],hp4 b0 K (mcA pc t (O3.length+J3.length) O3.length st s3 F) (O3.reverse.map ptA++J3)++[MB.row 3 [pt0] 0,MB.row 3 [ptA ⟨i,cs,x::g⟩] 0]):=by
           exact hc
          have eT:todoA (x::g)=.pt [.clo f cls,todoA g]:=by rw[<- hg];rfl
          obtain⟨y1,y2,y3,hy,hy1,hy2,hy3⟩:=MV q3;simp only[qA,isSome_some,eT];rw[hy]at hc';generalize hE2:O2.reverse.map ptA++J2=E2 at hc' |-;generalize hL2:O2.length+J2.length=L2 at hc' |-;generalize hn2:O2.length=n2 at hL2 hc' |-;generalize hE3:O3.reverse.map ptA++J3=E3 at hc' |-;generalize hL3:O3.length+J3.length=L3 at hc' |-;generalize hn3:O3.length=n3 at hL3 hc' |-;have hnp:ofK (Value.pointer none)=.nilp:=rfl;simp +contextual (disch:=omega) only[Tryz.f93,dd93,go_sem,simprocAttr,mu93,↓AD,↓AC,↓AB,↓AA,hlen,eT,hnp,hf0,hc',hy1,hy2,hy3,hg41,hg42,hg43,z42,z43,sameAt_refl,Ag,Ck,Cj,Ci,g0,g1,g2,g3,g4,g5,g6,z0,z1,z2,z3,z4,z5,z6,A5,Ao,Am,An,BT,BV,BU,BW,A4,A6,A7,AQ,Ah,Aj,Ac,Aa,Ab,A0,Ax,A1,A3,Ak,Al,append_assoc,cons_append,nil_append,length_append,length_cons,length_nil];repeat' (first|intro _|apply And.intro|(unfold dOk;kernel_rfl)|exact St.beq_refl _|(show altO _ _ _ _=true;kernel_rfl)|(show (_||_)=true;kernel_rfl)|(show (_&&_)=true;kernel_rfl))
          subst hE3 hL3 hn3;exact⟨⟨m3,q3,O3,s3,J3⟩,⟨h,by simp only;omega,hJ3,k2,k1,by simp only;omega,k4⟩,Nat.lt_succ_self _,by rw[<- hy];rfl⟩
     ·simp only;rw[hn0,<- hpop];rfl
  ·exact BD rfl rfl rfl (tk _ _ _ _) (by simp[AV.underL,AV.under];omega) (uH s O J hJ)
 obtain⟨r,⟨J',h1,rfl⟩,h2⟩:=key;exact⟨J',h1,h2⟩
end
section
theorem s99 (b0:MB):call Pg pol1 91 [] [b0]=some (.mpr 1,[b0,.mp (.int .i64) opsA]):=by
 have rp:∀ H1 r H,retPol pol1 91 H1 r H=some (r,H):=fun H1 r H=>rfl;refine AO (pol:=pol1) Tryz.func91 rfl rfl rfl rfl (AL _ _ 0 rfl) ?_;simp +contextual (disch:=omega) only[Tryz.f91,dd91,go_sem,simprocAttr,evAppend,AV.cells,AV.ok,mu91,↓AD,↓AC,↓AB,↓AA,rp]
 kernel_rfl
theorem s69 (b0:MB) (pc:List AV) (t:List Int) (F:Nat):call Pg pol1 54 [.pt pc,.sl false (t.map I),NV F] [b0]=some (.rf 2 1 0 0,hp4 b0 [] (mcA pc t 0 0 0 0 F) []):=by
 have rp:∀ H1 r H,retPol pol1 54 H1 r H=some (r,H):=fun H1 r H=>rfl;have h99:=s99 b0;refine AO (pol:=pol1) Tryz.func54 rfl rfl rfl rfl (AL _ _ 0 rfl) ?_;simp +contextual (disch:=omega) only[Tryz.f54,dd54,go_sem,simprocAttr,evAppend,AV.cells,AV.ok,mu54,↓AD,↓AC,↓AB,↓AA,rp,h99];rfl
def cap0:List Int:=List.replicate 18 (-1)
theorem s70 (b0:MB) (r:Re) (caps:Int) (runes:Bool) (t:List Int) (at_:Nat) (F:Nat) :
  call Pg pol1 55 [.rf 2 1 0 0,NV at_] (hp4 b0 [] (mcA (patC ⟨r,caps,runes⟩) t 0 0 0 0 F) []) =
   some (.tup [],hpS b0 [] (patC ⟨r,caps,runes⟩) t at_ 0 F [⟨at_,cap0,[.re r]⟩] []):=by
 obtain⟨N,hN⟩:∃ N,([]:List MB).length+4=N:=⟨_,rfl⟩;obtain⟨hlen,g0,g1,g2,g3,g4,g5,g6,z0,z1,z2,z3,z4,z5,z6⟩:=ownM b0 hN;have hpc:=Aw ⟨r,caps,runes⟩;have hr:=fun B=>Gs (f:=55) rfl rfl (b0:=b0) (K:=[]) (B:=B) hpc (t:=t) (st:=(at_:Int)) (s:=0) (s':=0) (F:=F) (O:=[]) (O':=[⟨at_,cap0,[.re r]⟩]) (J:=[]) (J':=[]) (fun m hm=>rfl) (r:=.tup []) (fun H=>rfl) (fun m hm=>rfl);have hrl:=AM r;have htk:∀ l:List AV,List.take 8 (reC r++l)=reC r:=fun l=>take_left' hrl;have h100:∀ A E B,call Pg pol1 92 [.rf 2 1 0 0,.pt (reC r),.nilp] (hp4 b0 [] A E++B)=some (todoA [.re r],hp4 b0 [] A E++B):=fun A E B=>s100 r [] (hp4 b0 [] A E++B) (by simp[hp4]);have hpush:∀ A B tt,evAppend Pg (hp4 b0 [] A []++B) 121 121 (.ms 3 3 0 0 0) (.sl tt [.agg [NV at_,.pt (cap0.map I),todoA [.re r]]])=some (.ms 3 3 1 0 1,hp4 b0 [] A [.agg [NV at_,.pt (cap0.map I),todoA [.re r]]]++B):=fun A B tt=>FQ b0 [] A [] [] ⟨at_,cap0,[.re r]⟩ B tt (by decide);have hnp:ofK (Value.pointer none)=.nilp:=rfl;have eF:hpS b0 [] (patC ⟨r,caps,runes⟩) t at_ 0 F [⟨at_,cap0,[.re r]⟩] []=hp4 b0 [] (mcA (patC ⟨r,caps,runes⟩) t 1 1 at_ 0 F) [.agg [NV at_,.pt (cap0.map I),todoA [.re r]]]:=rfl;rw[eF];refine AO (pol:=pol1) Tryz.func55 rfl rfl rfl rfl (AL _ _ 0 rfl) ?_;have hl0:(hp4 b0 [] (mcA (patC ⟨r,caps,runes⟩) t 0 0 0 0 F) []).length=N:=hlen _ _;simp +contextual (disch:=omega) only[Tryz.f55,dd55,go_sem,simprocAttr,evAppend,mu55,↓AD,↓AC,↓AB,↓AA,hlen,hg41,hg42,hg43,z42,z43,sameAt_refl,Ag,Ck,Cj,Ci,g0,g1,g2,g3,g4,g5,g6,z0,z1,z2,z3,z4,z5,z6,A5,Ao,Am,An,BT,BV,BU,BW,A4,A6,A7,AQ,Ah,Aj,Ac,Aa,Ab,A0,Ax,A1,A3,Ak,Al,append_assoc,cons_append,nil_append,length_append,length_cons,length_nil]
 let cur:Nat->List Int:=fun i=>List.replicate (2*i) (-1)++List.replicate (18-2*i) 0
 have hcl:∀ i,i<=9->(cur i).length=18:=fun i hi=>by simp[cur];omega
 have hcN:cur 9=cap0:=rfl;have hstep:∀ i,i<9->((cur i).map I).take (i*2)++(I (-1)::I (-1)::((cur i).map I).drop (i*2+2))=(cur (i+1)).map I:=fun i hi=>by
  have h1:=set2 (cur i) (i*2) (-1) (-1) (by rw[hcl i (by omega)];omega);have h2:((cur i).set (i*2) (-1)).set (i*2+1) (-1)=cur (i+1):=by
   have:∀ i,i<9->((cur i).set (i*2) (-1)).set (i*2+1) (-1)=cur (i+1):=by decide
   exact this i hi
  rw[<- h2,<- h1];simp
 refine Ae (M:=⟨some [8,4,1,0],none,[]⟩) (by rfl) 9 (fun i=>(⟨42,[(8,NV i),(4,.rf N 1 0 0),(1,NV at_),(0,.rf 2 1 0 0)],hp4 b0 [] (mcA (patC ⟨r,caps,runes⟩) t 0 0 0 0 F) []++[.row 18 [.agg ((cur i).map I)] 0]⟩:St))
  (fun _=>True) ?_ ?_ trivial _ ?_
 ·intro i hi _;have hl:=hcl i (by omega);have hs:=hstep i hi;rw[<- hs];generalize cur i=c at *;have hw1:IntKind.i64.wrap ((i:Int)+1)=((i+1:Nat):Int):=by rw[i64_in]<;>omega
  have hlt:((i:Int)<9)=True:=eq_true (by omega);have htk18:(c.map I).take 18=c.map I:=List.take_of_length_le (by simp[hl]);have hml:(c.map I).length=18:=by simp[hl]
  simp +contextual (disch:=omega) only[Tryz.f55,dd55,go_sem,simprocAttr,evAppend,mu55,↓AD,↓AC,↓AB,↓AA,hlen,hw1,hlt,hml,hg41,hg42,hg43,z42,z43,sameAt_refl,Ag,Ck,Cj,Ci,g0,g1,g2,g3,g4,g5,g6,z0,z1,z2,z3,z4,z5,z6,A5,Ao,Am,An,BT,BV,BU,BW,A4,A6,A7,AQ,Ah,Aj,Ac,Aa,Ab,A0,Ax,A1,A3,Ak,Al,append_assoc,cons_append,nil_append,length_append,length_cons,length_nil];repeat' (first|intro _|apply And.intro|(unfold dOk;kernel_rfl)|exact St.beq_refl _|(show altO _ _ _ _=true;kernel_rfl)|(show (_||_)=true;kernel_rfl)|(show (_&&_)=true;kernel_rfl))
  rfl
 ·intro _;rw[hcN];have b0':∀ A E,fz (.rf N 1 0 0) (hp4 b0 [] A E++[.row 18 [.agg (cap0.map I)] 0])=some (.pt (cap0.map I),hp4 b0 [] A E++[.row 18 [.agg (cap0.map I)] 1]):=fun A E=>by rw[DP (x:=.agg (cap0.map I)) (g0 _ _ _) (AG cap0),z0];rfl
  have hr:∀ B,retPol pol1 55 (hp4 b0 [] (mcA (patC ⟨r,caps,runes⟩) t 0 0 0 0 F) []) (.tup []) (hp4 b0 [] (mcA (patC ⟨r,caps,runes⟩) t 1 1 at_ 0 F) [.agg [NV at_,.pt (cap0.map I),todoA [.re r]]]++B)=some (.tup [],hp4 b0 [] (mcA (patC ⟨r,caps,runes⟩) t 1 1 at_ 0 F) [.agg [NV at_,.pt (cap0.map I),todoA [.re r]]]):=fun B=>JK rfl rfl rfl rfl (CZ hpc _ _ _ _ _ _ _ (by simp)) (CX 4 (by omega) [⟨at_,cap0,[.re r]⟩] [] (fun m hm=>rfl));generalize cap0.map I=c0 at *;simp +contextual (disch:=omega) only[Tryz.f55,dd55,go_sem,simprocAttr,mu55,↓AD,↓AC,↓AB,↓AA,hlen,b0',hrl,htk,h100,hpush,hnp,hg41,hg42,hg43,z42,z43,sameAt_refl,Ag,Ck,Cj,Ci,g0,g1,g2,g3,g4,g5,g6,z0,z1,z2,z3,z4,z5,z6,A5,Ao,Am,An,BT,BV,BU,BW,A4,A6,A7,AQ,Ah,Aj,Ac,Aa,Ab,A0,Ax,A1,A3,Ak,Al,append_assoc,cons_append,nil_append,length_append,length_cons,length_nil];repeat' (first|intro _|apply And.intro|(unfold dOk;kernel_rfl)|exact St.beq_refl _|(show altO _ _ _ _=true;kernel_rfl)|(show (_||_)=true;kernel_rfl)|(show (_&&_)=true;kernel_rfl))
  exact hr _
 ·rfl
end
section
attribute [local go_sem] evAppend
def pairsN (c:List Int) (n:Nat):List (Int×Int):=(List.range n).map fun k=>(c.getD (2*k) 0,c.getD (2*k+1) 0)
theorem Lk (c:List Int) (n:Nat):(pairsN c n).length=n:=by simp[pairsN]
theorem K9 (c:List Int) (hc:c.length=18) (n:Nat) (hn:n<=9):(chunks 9 2 (c.map I)).take n=(pairsN c n).map spanAV:=by
 apply List.ext_getElem?;intro i;by_cases hi:i<n
 ·have h1:c[2*i]?=some (c.getD (2*i) 0):=by rw[List.getD_eq_getElem?_getD,List.getElem?_eq_getElem (by omega)];rfl
  have h2:c[2*i+1]?=some (c.getD (2*i+1) 0):=by rw[List.getD_eq_getElem?_getD,List.getElem?_eq_getElem (by omega)];rfl
  have hd:(c.map I).drop (i*2)=I (c.getD (2*i) 0)::I (c.getD (2*i+1) 0)::(c.map I).drop (i*2+2):=by
   apply List.ext_getElem?;intro j;rw[List.getElem?_drop]
   match j with
   | 0=>rw[show i*2+0=2*i by omega,getElem?_map,h1];rfl
   | 1=>rw[show i*2+1=2*i+1 by omega,getElem?_map,h2];rfl
   | j+2=>simp only[List.getElem?_cons_succ,List.getElem?_drop];congr 1;omega
  rw[List.getElem?_take,if_pos hi];simp only[chunks,pairsN,getElem?_map,List.getElem?_range (show i<9 by omega),List.getElem?_range hi,map_some,hd];rfl
 ·rw[List.getElem?_eq_none (by simp[chunks];omega),List.getElem?_eq_none (by simp[pairsN];omega)]
theorem R4 (H:List MB):call Pg pol1 94 [.sl false []] H=some (.sl false [],H):=by
 rw[Bk];unfold evStep;rw[if_pos (show pol1.pure 94=true by decide)];rfl
theorem s102 (x:Int×Int) (l:List (Int×Int)) (hl:(x::l).length<=1000000) (H:List MB):call Pg pol1 94 [.sl false ((x::l).map spanAV)] H=some (.ms H.length 2 (l.length+1) 0 (l.length+1),H++[.row 2 ((x::l).map spanAV) 0]):=by
 rw[Bk];unfold evStep;rw[if_pos (show pol1.pure 94=true by decide)];have hp:AV.plainL [.sl false ((x::l).map spanAV)]=true:=by simp only[AV.plainL,AV.plain,AF];rfl
 rw[CE (fun i=>rfl) H _ 0 hp];have hb:evBody Pg pol1 (call Pg pol1) itL 94 [.sl false ((x::l).map spanAV)] []=some (.ms 0 2 (l.length+1) 0 (l.length+1),[.row 2 ((x::l).map spanAV) 0]):=by
  unfold evBody;have he:pol1.ext 94=some (cloneExt 2 16):=rfl;simp only[he,cloneExt,elemsOf];rw[if_pos (PA (x::l) hl)];simp
 simp only[AE 0 _ hp,if_true,hb,rebase,AE 0 _ (AF (x::l))]
theorem Gr {f:Nat} (hk:pol1.keep f=false) (ho:pol1.own f=false) {b0:MB}{K:List MB}{a a':AV}{E E':List AV}{B B':List MB}{r r':AV} (hr:fz r (hp4 b0 K a' E'++B)=some (r',hp4 b0 K a' E'++B'))
  (hu:AV.under (K.length+4) r' = true) (ha:AV.underL (K.length+4) [a']=true) (hE:AV.underL (K.length+4) E' = true) :
  retPol pol1 f (hp4 b0 K a E) r (hp4 b0 K a' E'++B)=some (r',hp4 b0 K a' E'):=by
 have hkk:keptOk (K.length+4) (hp4 b0 K a E) (hp4 b0 K a' E'++B')=true:=by
  unfold hp4;simp only[cons_append,keptOk,MB.beq_refl,Bool.or_true,Bool.true_and,MB.under,ha,hE,Bool.true_or,Bu]
 unfold retPol;simp only[hk,ho,Bool.false_eq_true,if_false,hr,FF,hu,hkk,and_self,if_true];rw[<- FF b0 K a' E',take_left' rfl]
theorem Oh {x x':AV}{G G':List MB} (a b:Int) (c:Bool) (h:fz x G=some (x',G')):fz (.tup [.agg [I a,I b,x],.bool c]) G=some (.tup [.agg [I a,I b,x'],.bool c],G'):=by
 unfold fz at *;simp only[fzA,fzL,h]
def nextA (st:Int) (n:Nat):Option Pt->AV
 | some p=>.tup [matAV st p.i (pairsN p.c n),.bool true]
 | none=>.tup [.agg [I 0,I 0,.sl false []],.bool false]
theorem s71 (b0:MB) (K:List MB) (hU:∀ n,K.length+4<=n->(b0::K).all (MB.under n)=true) (r:Re) (n:Nat) (hn:n<=9) (runes:Bool) (t:List Int) (ht:t.length<=1000000) (st:Int) (F:Nat) (hF:F<=1048576)
  (m:Nat) (O:List Pt) (s:Nat) (J:List AV) (hJ:∀ m,3<=m->AV.underL m J=true) (hO:∀ x∈O,PtOk t x) (hOl:O.length<=1000*s+1000) (hs:s<=F)
  (q:Option Pt) (hq:∀ p,q=some p->p.c.length=18) (O':List Pt) (s':Nat) (h:runM t F m none O s=some (q,O',s')) :
  ∃ J',(∀ m,3<=m->AV.underL m J' = true)/\call Pg pol1 56 [.rf 2 1 0 0] (hpS b0 K (patC ⟨r,n,runes⟩) t st s F O J) =
    some (nextA st n q,hpS b0 K (patC ⟨r,n,runes⟩) t st s' F O' J'):=by
 have hpc:=Aw ⟨r,n,runes⟩;have hU1:∀ k,(K++[MB.row 3 [.agg [I 0,I 0,.sl true []]] 0]).length+4<=k->(b0::(K++[MB.row 3 [.agg [I 0,I 0,.sl true []]] 0])).all (MB.under k)=true:=fun k hk=>by
  have:=hU k (by simp at hk;omega);simp only[all_cons,all_append,Bool.and_eq_true]at this |-;exact⟨this.1,this.2,rfl,rfl⟩
 obtain⟨J',hJ',hc⟩:=s101 b0 (K++[MB.row 3 [.agg [I 0,I 0,.sl true []]] 0]) hU1 hpc t ht st F hF m O s J hJ hO hOl hs q O' s' h;refine⟨J',hJ',?_⟩
 have hc':call Pg pol1 93 [.rf 2 1 0 0,I 0] (hpS b0 K (patC ⟨r,n,runes⟩) t st s F O J++[MB.row 3 [.agg [I 0,I 0,.sl true []]] 0]) =
  some (.tup [qA q,.bool q.isSome],hpS b0 K (patC ⟨r,n,runes⟩) t st s' F O' J'++[MB.row 3 [.agg [I 0,I 0,.sl true []]] 0]):=hc
 obtain⟨N,hN⟩:∃ N,K.length+4=N:=⟨_,rfl⟩;obtain⟨hlen,g0,g1,g2,g3,g4,g5,g6,z0,z1,z2,z3,z4,z5,z6⟩:=ownM b0 hN;have hrl:=AM r;have hcap:(patC ⟨r,n,runes⟩)[8]?=some (I n):=by
  show (reC r++[I n,.bool runes])[8]?=_;rw[List.getElem?_append_right (by omega),hrl];rfl
 have hdrop:(patC ⟨r,n,runes⟩).drop 8=[I n,.bool runes]:=by
  show (reC r++[I n,.bool runes]).drop 8=_;rw[List.drop_left' hrl]
 refine AO (pol:=pol1) Tryz.func56 rfl rfl rfl rfl (AL _ _ 0 rfl) ?_;cases q with
 | none=>
   have hret:∀ B,retPol pol1 56 (hpS b0 K (patC ⟨r,n,runes⟩) t st s F O J) (.tup [.agg [I 0,I 0,.sl true []],.bool false]) (hpS b0 K (patC ⟨r,n,runes⟩) t st s' F O' J'++B)=some (.tup [.agg [I 0,I 0,.sl false []],.bool false],hpS b0 K (patC ⟨r,n,runes⟩) t st s' F O' J'):=fun B=>
    Gr rfl rfl (r:=.tup [.agg [I 0,I 0,.sl true []],.bool false]) (r':=.tup [.agg [I 0,I 0,.sl false []],.bool false]) (B':=B) rfl rfl (CZ hpc _ _ _ _ _ _ _ (by omega)) (CX _ (by omega) _ _ hJ')
   simp only[qA,nextA,isSome_none]at hc' |-;simp only[hpS]at *;generalize patC ⟨r,n,runes⟩=pc at *;generalize O.reverse.map ptA++J=E0 at *;generalize O.length+J.length=L0 at *;generalize O.length=n0 at *;generalize O'.reverse.map ptA++J' = E1 at *;generalize O'.length+J'.length=L1 at *;generalize O'.length=n1 at *;simp +contextual (disch:=omega) only[Tryz.f56,dd56,go_sem,simprocAttr,mu56,↓AD,↓AC,↓AB,↓AA,hlen,hc',hg41,hg42,hg43,z42,z43,sameAt_refl,Ag,Ck,Cj,Ci,g0,g1,g2,g3,g4,g5,g6,z0,z1,z2,z3,z4,z5,z6,A5,Ao,Am,An,BT,BV,BU,BW,A4,A6,A7,AQ,Ah,Aj,Ac,Aa,Ab,A0,Ax,A1,A3,Ak,Al,append_assoc,cons_append,nil_append,length_append,length_cons,length_nil];repeat' (first|intro _|apply And.intro|(unfold dOk;kernel_rfl)|exact St.beq_refl _|(show altO _ _ _ _=true;kernel_rfl)|(show (_||_)=true;kernel_rfl)|(show (_&&_)=true;kernel_rfl))
   exact hret _
 | some p=>
   have hcl:=hq p rfl;have hml:(p.c.map I).length=18:=by simp[hcl]
   have hch:=K9 p.c hcl n hn;have hn9:((n:Int)<=9)=True:=eq_true (by omega);have hpl:=Lk p.c n;have hsz:tySz Pg 166=some 2:=by kernel_rfl
   have h29:(2<=2/\18=9*2)=True:=by simp
   simp only[qA,nextA,isSome_some,matAV]at hc' |-;cases hpn:pairsN p.c n with
   | nil=>
     rw[hpn]at hch;have h102:=R4;have hret:∀ B,retPol pol1 56 (hpS b0 K (patC ⟨r,n,runes⟩) t st s F O J) (.tup [.agg [I st,NV p.i,.sl false []],.bool true]) (hpS b0 K (patC ⟨r,n,runes⟩) t st s' F O' J'++B)=some (.tup [.agg [I st,NV p.i,.sl false []],.bool true],hpS b0 K (patC ⟨r,n,runes⟩) t st s' F O' J'):=fun B=>
      Gr rfl rfl (B':=B) rfl rfl (CZ hpc _ _ _ _ _ _ _ (by omega)) (CX _ (by omega) _ _ hJ')
     simp only[map_nil]at hch |-;simp only[hpS]at *;generalize patC ⟨r,n,runes⟩=pc at *;generalize O.reverse.map ptA++J=E0 at *;generalize O.length+J.length=L0 at *;generalize O.length=n0 at *;generalize O'.reverse.map ptA++J' = E1 at *;generalize O'.length+J'.length=L1 at *;generalize O'.length=n1 at *;simp +contextual (disch:=omega) only[Tryz.f56,dd56,go_sem,simprocAttr,mu56,↓AD,↓AC,↓AB,↓AA,hlen,hc',hdrop,hml,hch,hn9,h102,hsz,h29,Dd,evSliceArr,List.drop_zero,hg41,hg42,hg43,z42,z43,sameAt_refl,Ag,Ck,Cj,Ci,g0,g1,g2,g3,g4,g5,g6,z0,z1,z2,z3,z4,z5,z6,A5,Ao,Am,An,BT,BV,BU,BW,A4,A6,A7,AQ,Ah,Aj,Ac,Aa,Ab,A0,Ax,A1,A3,Ak,Al,append_assoc,cons_append,nil_append,length_append,length_cons,length_nil];repeat' (first|intro _|apply And.intro|(unfold dOk;kernel_rfl)|exact St.beq_refl _|(show altO _ _ _ _=true;kernel_rfl)|(show (_||_)=true;kernel_rfl)|(show (_&&_)=true;kernel_rfl))
     exact hret _
   | cons x l=>
     rw[hpn]at hch hpl;have h102:=s102 x l (by rw[hpl];omega);simp only[length_cons]at hpl;have hret:∀ a b,retPol pol1 56 (hpS b0 K (patC ⟨r,n,runes⟩) t st s F O J) (.tup [.agg [I st,NV p.i,.ms (N+2) 2 (l.length+1) 0 (l.length+1)],.bool true]) (hpS b0 K (patC ⟨r,n,runes⟩) t st s' F O' J'++[a,b,.row 2 ((x::l).map spanAV) 0])=some (.tup [.agg [I st,NV p.i,.sl false ((x::l).map spanAV)],.bool true],hpS b0 K (patC ⟨r,n,runes⟩) t st s' F O' J'):=fun a b=>by
      have hrow:getRow (hpS b0 K (patC ⟨r,n,runes⟩) t st s' F O' J'++[a,b,.row 2 ((x::l).map spanAV) 0]) (N+2)=some (2,(x::l).map spanAV,0):=by
       unfold getRow;rw[g2];rfl
      have h1:=De hrow (tot:=l.length+1) (by simp) (AF (x::l));have h2:mark (hpS b0 K (patC ⟨r,n,runes⟩) t st s' F O' J'++[a,b,.row 2 ((x::l).map spanAV) 0]) (N+2) (l.length+1)=hpS b0 K (patC ⟨r,n,runes⟩) t st s' F O' J'++[a,b,.row 2 ((x::l).map spanAV) (l.length+1)]:=by
       unfold mark;rw[hrow];simp only;rw[z2,show max 0 (l.length+1)=l.length+1 by omega];rfl
      rw[h2]at h1;refine Gr rfl rfl (Oh _ _ _ h1) ?_ (CZ hpc _ _ _ _ _ _ _ (by omega)) (CX _ (by omega) _ _ hJ');have h3:=AE (K.length+4) _ (AF (x::l));simp only[AV.under,AV.underL,h3,Bool.and_true]
     generalize hX:(x::l).map spanAV=X at *;simp only[hpS]at *;generalize patC ⟨r,n,runes⟩=pc at *;generalize O.reverse.map ptA++J=E0 at *;generalize O.length+J.length=L0 at *;generalize O.length=n0 at *;generalize O'.reverse.map ptA++J' = E1 at *;generalize O'.length+J'.length=L1 at *;generalize O'.length=n1 at *;simp +contextual (disch:=omega) only[Tryz.f56,dd56,go_sem,simprocAttr,mu56,↓AD,↓AC,↓AB,↓AA,hlen,hc',hdrop,hml,hch,hn9,h102,hsz,h29,Dd,evSliceArr,List.drop_zero,hg41,hg42,hg43,z42,z43,sameAt_refl,Ag,Ck,Cj,Ci,g0,g1,g2,g3,g4,g5,g6,z0,z1,z2,z3,z4,z5,z6,A5,Ao,Am,An,BT,BV,BU,BW,A4,A6,A7,AQ,Ah,Aj,Ac,Aa,Ab,A0,Ax,A1,A3,Ak,Al,append_assoc,cons_append,nil_append,length_append,length_cons,length_nil];repeat' (first|intro _|apply And.intro|(unfold dOk;kernel_rfl)|exact St.beq_refl _|(show altO _ _ _ _=true;kernel_rfl)|(show (_||_)=true;kernel_rfl)|(show (_&&_)=true;kernel_rfl))
     exact hret _ _
end
end Go.Ev
