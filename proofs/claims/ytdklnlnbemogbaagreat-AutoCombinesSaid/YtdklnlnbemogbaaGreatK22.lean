/- What functions of the program compute; no further conditions. -/
import Derived.Test.YtdklnlnbemogbaaGreatK21
set_option linter.unusedVariables false
set_option linter.unusedSimpArgs false
open List (append_assoc cons_append ext_getElem? getElem?_append_left getElem?_append_right getElem?_cons_succ getElem?_eq_none getElem?_map getElem?_set_ne getElem?_set_self length_append length_cons length_map map_append map_cons map_map map_replicate map_set map_take mem_map mem_range set_cons_succ take_of_length_le)
open Nat (sub_self zero_le)
open Go.Proofs Go.RowKit Go.IntWalk
set_option maxHeartbeats 8000000
set_option maxRecDepth 100000
namespace Go.Ev
attribute [local go_sem] evBin AV.cells strOf An As bndO bnd evEq eqCells not_false_eq_true not_true_eq_false toList_some Array.size_empty length_append tySzE List.head?_drop Nat.mul_one Ac Aj Aa Ad Ae AW
section
theorem Su {H:List MB}{i n z:Nat}{rs:List Int}{x:Int}{t:Bool} (hi:getRow H i=some (1,rs.map I,z)) (hz:z<=n) (hn:rs.length=n) (hr:n+1<=4000000000) :
  evAppend Pg H 22 22 (.ms i 1 n 0 n) (.sl t [I x])=some (.ms i 1 (n+1) 0 (n+1),H.set i (.row 1 ((rs++[x]).map I) z)):=by
 have hs:srcElems Pg H 3 (.sl t [I x])=some [I x]:=rfl;rw[Ag (e:=3) (by kernel_rfl) (by kernel_rfl) (k:=1) (by kernel_rfl) (by_:=8) (by kernel_rfl) (ze:=I 0) (by kernel_rfl) rfl (by omega) hs (by simp[AV.cells,AV.ok]) hi (by rw[length_map];exact hn) hz (AW (by simp;omega) (by omega))];rw[map_append];rfl
theorem FL {H:List MB}{i n z:Nat}{rs:List Bool}{x:Bool}{t:Bool} (hi:getRow H i=some (1,rs.map AV.bool,z)) (hz:z<=n) (hn:rs.length=n) (hr:n+1<=4000000000) :
  evAppend Pg H 40 40 (.ms i 1 n 0 n) (.sl t [.bool x])=some (.ms i 1 (n+1) 0 (n+1),H.set i (.row 1 ((rs++[x]).map AV.bool) z)):=by
 have hs:srcElems Pg H 4 (.sl t [.bool x])=some [.bool x]:=rfl;rw[Ag (e:=4) (by kernel_rfl) (by kernel_rfl) (k:=1) (by kernel_rfl) (by_:=1) (by kernel_rfl) (ze:=.bool false) (by kernel_rfl) rfl (by omega) hs (by simp[AV.cells,AV.ok]) hi (by rw[length_map];exact hn) hz (AW (by simp;omega) (by omega))];rw[map_append];rfl
theorem HD {H:List MB}{i n z:Nat}{rs:List AV}{x:AV}{t:Bool} (hi:getRow H i=some (1,rs,z)) (hz:z<=n) (hn:rs.length=n) (hr:n+1<=4000000000) (hx:x.cells=[x]) (ho:x.ok=true) :
  evAppend Pg H 39 39 (.ms i 1 n 0 n) (.sl t [x])=some (.ms i 1 (n+1) 0 (n+1),H.set i (.row 1 (rs++[x]) z)):=by
 have hs:srcElems Pg H 22 (.sl t [x])=some [x]:=rfl;rw[Ag (e:=22) (by kernel_rfl) (by kernel_rfl) (k:=1) (by kernel_rfl) (by_:=24) (by kernel_rfl) (ze:=.sl true []) (by kernel_rfl) rfl (by omega) hs (by simp[hx,ho]) hi hn hz (AW (by simp;omega) (by omega))];rfl
theorem Dd {jump:List AV->List MB->Option (List AV×List MB)}{x y:AV}{H H':List MB} (hx:fzA jump x H=some (y,H')):∀(R:List AV),AV.plainL R=true->fzL jump (R++[x]) H=some (R++[y],H')
 | [],_=>by simp only[List.nil_append,fzL,hx]
 | a::R,h=>by
   simp only[AV.plainL,Bool.and_eq_true]at h;simp only[cons_append,fzL,De jump a H h.1,Dd hx R h.2]
theorem CR {a b c a' b' c':AV}{H H1 H2 H3:List MB} (h1:fz a H=some (a',H1)) (h2:fz b H1=some (b',H2)) (h3:fz c H2=some (c',H3)):fz (.agg [a,b,c]) H=some (.agg [a',b',c'],H3):=by
 unfold fz at *;simp only[fzA,fzL,h1,h2,h3]
def someCls (k top:Int):Cls:=if k=0 then [[(0,96),(99,top)],[(97,97)],[(98,98)]] else [[(0,96),(99+k,top)],[(97,97)],[(98,98)],[(99,98+k)]]
def someN (l:List Int):Nat:=(1+pickI l 1 8).toNat
def someRow (l:List Int) (n:Nat) (m i:Nat):List Int:=(List.range m).map fun(c:Nat)=>pickI l (2+5*(i:Int)+(c:Int)) n
def someAc (l:List Int) (i:Nat):Bool:=pickI l (6+5*(i:Int)) 3==0
def someA (l:List Int) (top:Int):AutoL:=
 ⟨someCls (pickI l 0 3) top,(List.range (someN l)).map fun i=>someRow l (someN l) (someCls (pickI l 0 3) top).length i,(List.range (someN l)).map fun i=>someAc l i⟩
def splitArg (k:Int):AV:=.sl true [.sl true [.agg [I 97,I 98]],.sl true [.agg [I 98,.int .i64 (98+k)]]]
theorem s62 (k top:Int) (hk:k=0∨k=1∨k=2) (ht:top=255∨top=1114111) (H:List MB) :
  call Pg pol1 62 [splitArg k,.int .i64 top] H=some (.tup [.sl false ((someCls k top).map setAV9),I 0],H):=by
 rcases hk with rfl|rfl|rfl<;>rcases ht with rfl|rfl
 ·exact BG (n:=60) 24 62 _ _ _ (by kernel_rfl)
 ·exact BG (n:=60) 24 62 _ _ _ (by kernel_rfl)
 ·exact BG (n:=60) 24 62 _ _ _ (by kernel_rfl)
 ·exact BG (n:=60) 24 62 _ _ _ (by kernel_rfl)
 ·exact BG (n:=60) 24 62 _ _ _ (by kernel_rfl)
 ·exact BG (n:=60) 24 62 _ _ _ (by kernel_rfl)
theorem f23 (a:AutoL) (H:List MB):call Pg pol1 23 [autoAV a] H=some (autoAV a,H):=by
 have hpl:=AX a;obtain⟨cl,nx,ac⟩:=a;refine AQ Tryz.func23 rfl rfl rfl rfl rfl rfl (fun _=>rfl) (by simp only[AV.plainL,hpl];rfl) hpl ?_ H;simp +contextual (disch:=omega) only[Tryz.f23,dd23,go_sem,simprocAttr,evAppend,map_append,mu23];exact fzEq hpl rfl
theorem f20 (l:List Int) (hl:∀ x∈l,In64 x) (r:Bool) (H:List MB):call Pg pol1 20 [.sl false (l.map I),.bool r] H=some (autoAV (someA l (if r then 1114111 else 255)),H):=by
 have hp3:=f57 l 0 3 hl (by omega);have hp8:=f57 l 1 8 hl (by omega);have b3:=Fw (l:=l) (i:=0) (m:=3) (by omega);have b8:=Fw (l:=l) (i:=1) (m:=8) (by omega);have ha:=fun(i:Nat)=>f57 l (6+5*(i:Int)) 3 hl (by omega);have hs:=s62 (pickI l 0 3) (if r then 1114111 else 255) (by omega) (by cases r<;>simp);have hm4:(someCls (pickI l 0 3) (if r then 1114111 else 255)).length<=4:=by unfold someCls;split<;>simp
 have hpa:=AX (someA l (if r then 1114111 else 255));have hpi:=AF l;unfold someA at hpa |-;have hpc:=AP (someCls (pickI l 0 3) (if r then 1114111 else 255));have hN:((someN l:Nat):Int)=1+pickI l 1 8:=by unfold someN;omega
 have hN8:someN l<=8:=by omega
 have hn0:((someN l:Nat):Int)≠0:=by omega
 have hr:=fun(i c:Nat)=>f57 l (2+5*(i:Int)+(c:Int)) (someN l) hl hn0;unfold splitArg at hs;have w1:IntKind.i64.wrap (1+pickI l 1 8)=(someN l:Int):=by rw[i64_in]<;>omega
 have w2:IntKind.i64.wrap (98+pickI l 0 3)=98+pickI l 0 3:=by rw[i64_in];omega
 generalize pickI l 0 3=k3 at *;refine AQ Tryz.func20 rfl rfl rfl rfl rfl rfl (fun _=>rfl) (by simp[AV.plain,AV.plainL,hpi]) hpa ?_ H;generalize hC:someCls k3 (if r then 1114111 else 255)=C at *;generalize hnn:someN l=n at *;cases r
 all_goals
  simp only[Bool.false_eq_true,if_false,if_true]at hs;simp +contextual (disch:=omega) only[Tryz.f20,dd20,go_sem,simprocAttr,map_append,mu20,hp3,hp8,hs,w1,w2];refine AS (M:=(Ms 20 8)) rfl n (fun i=>(⟨72,[(10,I i),(9,I n),(8,.rf 1 1 0 0),(6,.sl false (C.map setAV9)),(4,.rf 0 1 0 0),(0,.sl false (l.map I))],[.row 3 [.agg [.sl true [],.sl true [],.sl true []]] 0,.row 3 [.agg [.sl false (C.map setAV9),.ms 2 1 i 0 i,.ms 3 1 i 0 i]] 0,.row 1 ((List.range i).map fun i=>rowAV (someRow l n C.length i)) 0,.row 1 (((List.range i).map fun i=>someAc l i).map AV.bool) 0]⟩:St)) (fun i=>True) ?_ ?_ trivial _ ?_
  ·intro i hi _;have hR1:AV.plainL ((List.range i).map (fun i=>rowAV (someRow l n C.length i)))=true:=by
    rw[Dx];intro x hx;obtain⟨j,_,rfl⟩:=mem_map.1 hx;simp[AV.plain,AF]
   have hR2:=AN ((List.range i).map fun i=>someAc l i);have hrow0:∀ c,(someRow l n c i).length=c:=fun c=>by simp[someRow]
   simp +contextual (disch:=omega) only[Tryz.f20,dd20,go_sem,simprocAttr,map_append,mu20];refine AS (M:=(Ms 20 12)) rfl C.length (fun c=>(⟨72,[(12,I c),(11,.ms 4 1 c 0 c),(10,I i),(9,I n),(8,.rf 1 1 0 0),(6,.sl false (C.map setAV9)),(4,.rf 0 1 0 0),(0,.sl false (l.map I))],[.row 3 [.agg [.sl true [],.sl true [],.sl true []]] 0,.row 3 [.agg [.sl false (C.map setAV9),.ms 2 1 i 0 i,.ms 3 1 i 0 i]] 0,.row 1 ((List.range i).map fun i=>rowAV (someRow l n C.length i)) 0,.row 1 (((List.range i).map fun i=>someAc l i).map AV.bool) 0,.row 1 ((someRow l n c i).map I) 0]⟩:St)) (fun i=>True) ?_ ?_ trivial _ ?_
   ·intro c hc _;have hs1:someRow l n (c+1) i=someRow l n c i++[pickI l (2+5*(i:Int)+(c:Int)) n]:=by simp[someRow,List.range_succ]
    have hrc:=hr i c;generalize pickI l (2+5*(i:Int)+(c:Int)) n=z at *;have v1:IntKind.i64.wrap (5*(i:Int))=5*(i:Int):=by rw[i64_in]<;>omega
    have v2:IntKind.i64.wrap (2+5*(i:Int))=2+5*(i:Int):=by rw[i64_in]<;>omega
    have v3:IntKind.i64.wrap (2+5*(i:Int)+(c:Int))=2+5*(i:Int)+(c:Int):=by rw[i64_in]<;>omega
    rw[hs1];generalize (List.range i).map (fun i=>rowAV (someRow l n C.length i))=R1 at *;generalize ((List.range i).map fun i=>someAc l i).map AV.bool=R2 at *;have hl1:=hrow0 c;generalize someRow l n c i=rw1 at *;have a1:=fun(b0 b1 b2 b3:MB) (t:Bool)=>Su (H:=[b0,b1,b2,b3,.row 1 (rw1.map I) 0]) (i:=4) (n:=c) (x:=z) (t:=t) rfl (zero_le _) hl1 (by omega);simp only[OI]at a1;simp +contextual (disch:=omega) only[Tryz.f20,dd20,go_sem,simprocAttr,mu20,v1,v2,v3,hrc,a1];generalize rw1++[z]=rw2;exact(by first|rfl|(refine AO rfl (by rfl) (by rfl) (by rfl) ?_ ?_<;>simp[AV.underL,AV.under,MB.under,AG,AJ,AF,AH,AK,AM,-map_take,AF,AP,hR1,hR2]))
   ·intro _;have hl1:=hrow0 C.length;have hs2:(List.range (i+1)).map (fun i=>rowAV (someRow l n C.length i))=(List.range i).map (fun i=>rowAV (someRow l n C.length i))++[rowAV (someRow l n C.length i)]:=by simp[List.range_succ]
    have hs3:(List.range (i+1)).map (fun i=>someAc l i)=(List.range i).map (fun i=>someAc l i)++[someAc l i]:=by simp[List.range_succ]
    have hl2:((List.range i).map (fun i=>rowAV (someRow l n C.length i))).length=i:=by simp
    have hl3:((List.range i).map (fun i=>someAc l i)).length=i:=by simp
    have hac:=ha i;have hac2:someAc l i=(pickI l (6+5*(i:Int)) 3==0):=rfl;rw[hs2,hs3,hac2];generalize pickI l (6+5*(i:Int)) 3=z at *;generalize someRow l n C.length i=rw1 at *;generalize (List.range i).map (fun i=>rowAV (someRow l n C.length i))=R1 at *;generalize (List.range i).map (fun i=>someAc l i)=R2 at *;have v1:IntKind.i64.wrap (5*(i:Int))=5*(i:Int):=by rw[i64_in]<;>omega
    have v2:IntKind.i64.wrap (6+5*(i:Int))=6+5*(i:Int):=by rw[i64_in]<;>omega
    have a1:=fun(b0 b1 b3 b4:MB) (t:Bool)=>HD (H:=[b0,b1,.row 1 R1 0,b3,b4]) (i:=2) (n:=i) (x:=.ms 4 1 C.length 0 C.length) (t:=t) rfl (zero_le _) hl2 (by omega) rfl rfl;simp only[Sd]at a1;have hz:fzs (R1++[.ms 4 1 C.length 0 C.length]) [.row 3 [.agg [.sl true [],.sl true [],.sl true []]] 0,.row 3 [.agg [.sl false (C.map setAV9),.ms 2 1 (i+1) 0 (i+1),.ms 3 1 i 0 i]] 0,.row 1 (R1++[.ms 4 1 C.length 0 C.length]) 0,.row 1 (R2.map AV.bool) 0,.row 1 (rw1.map I) 0]=some (R1++[rowAV rw1],[.row 3 [.agg [.sl true [],.sl true [],.sl true []]] 0,.row 3 [.agg [.sl false (C.map setAV9),.ms 2 1 (i+1) 0 (i+1),.ms 3 1 i 0 i]] 0,.row 1 (R1++[.ms 4 1 C.length 0 C.length]) 0,.row 1 (R2.map AV.bool) 0,.row 1 (rw1.map I) C.length]):=by
     refine Dd ?_ R1 hR1;have:=Av (id:=4) (k:=1) (z:=0) (tot:=C.length) (H:=[.row 3 [.agg [.sl true [],.sl true [],.sl true []]] 0,.row 3 [.agg [.sl false (C.map setAV9),.ms 2 1 (i+1) 0 (i+1),.ms 3 1 i 0 i]] 0,.row 1 (R1++[.ms 4 1 C.length 0 C.length]) 0,.row 1 (R2.map AV.bool) 0,.row 1 (rw1.map I) 0]) rfl (by simp[hl1]) (AF rw1);unfold fz at this;rw[this];simp[mark,getRow]
    have hbq:=AV.beqL_refl (R1++[.ms 4 1 C.length 0 C.length]);have a2:=fun(b0 b1 b2 b4:MB) (t:Bool)=>FL (H:=[b0,b1,b2,.row 1 (R2.map AV.bool) 0,b4]) (i:=3) (n:=i) (x:=(z==0)) (t:=t) rfl (zero_le _) hl3 (by omega);simp only[OJ]at a2;simp +contextual (disch:=omega) only[Tryz.f20,dd20,go_sem,simprocAttr,mu20,a1,hz,hbq,hac,v1,v2,a2];repeat' (first|intro _|apply And.intro|(unfold dOk;kernel_rfl)|exact St.beq_refl _|exact Ah|(show altO _ _ _ _=true;kernel_rfl)|(show (_||_)=true;kernel_rfl)|(show (_&&_)=true;kernel_rfl))
    generalize R2++[z==0]=R3;have hR4:AV.plainL (R1++[rowAV rw1])=true:=by
     rw[Dx]at hR1 |-;intro x hx;rcases List.mem_append.1 hx with h|h
     ·exact hR1 x h
     ·simp at h;subst h;simp[AV.plain,AF]
    generalize R1++[rowAV rw1]=R4 at *;exact(by first|rfl|(refine AO rfl (by rfl) (by rfl) (by rfl) ?_ ?_<;>simp[AV.underL,AV.under,MB.under,AG,AJ,AF,AH,AK,AM,-map_take,AF,AP,hR4,AN]))
   ·rw[show someRow l n 0 i=[] from rfl];generalize (List.range i).map (fun i=>rowAV (someRow l n C.length i))=R1 at *;generalize ((List.range i).map fun i=>someAc l i).map AV.bool=R2 at *;exact(by first|rfl|(refine AO rfl (by rfl) (by rfl) (by rfl) ?_ ?_<;>simp[AV.underL,AV.under,MB.under,AG,AJ,AF,AH,AK,AM,-map_take,AF,AP,hR1,hR2]))
  ·intro _;have hRn:AV.plainL ((List.range n).map (fun i=>rowAV (someRow l n C.length i)))=true:=by
    rw[Dx];intro x hx;obtain⟨j,_,rfl⟩:=mem_map.1 hx;simp[AV.plain,AF]
   have hBn:=AN ((List.range n).map fun i=>someAc l i);simp +contextual (disch:=omega) only[Tryz.f20,dd20,go_sem,simprocAttr,map_append,mu20];rw[show (List.range n).map (fun i=>rowAV (someRow l n C.length i))=((List.range n).map fun i=>someRow l n C.length i).map rowAV by rw[map_map];rfl]at hRn |-;refine⟨_,CR (AY _ (by simp[AV.plain,AP])) (Av (z:=0) rfl (by simp) hRn) (Av (z:=0) rfl (by simp) hBn)⟩
  ·exact(by first|rfl|(refine AO rfl (by rfl) (by rfl) (by rfl) ?_ ?_<;>simp[AV.underL,AV.under,MB.under,AG,AJ,AF,AH,AK,AM,-map_take,AF,AP]))
end
end Go.Ev
namespace Go.Ev
theorem Jy {H:List MB}{id n i k z:Nat}{els:List AV} (h:getRow H i=some (k,els,z)):∃ z',getRow (mark H id n) i=some (k,els,z'):=by
 unfold mark;cases hr:getRow H id with
 | none=>exact⟨z,h⟩
 | some x=>
   obtain⟨k',els',z'⟩:=x;simp only;by_cases e:id=i
   ·subst e;rw[h]at hr;cases hr;unfold getRow at h |-;have hlt:id<H.length:=by
     rcases Nat.lt_or_ge id H.length with h1|h1
     ·exact h1
     ·rw[getElem?_eq_none h1]at h;cases h
    rw[getElem?_set_self hlt];exact⟨_,rfl⟩
   ·unfold getRow at h |-;rw[getElem?_set_ne e];exact⟨z,h⟩
def Cel (H:List MB) (k:Nat) (x:AV) (e:List AV):Prop:=AV.plainL e=true/\((∃ t,x=.sl t e)∨∃ id z,x=.ms id k e.length 0 e.length/\getRow H id=some (k,e,z))
theorem Cel.mark {H:List MB}{k:Nat}{x:AV}{e:List AV} (h:Cel H k x e) (id n:Nat):Cel (mark H id n) k x e:=by
 obtain⟨h1,h2⟩:=h;refine⟨h1,?_⟩;rcases h2 with h2|⟨i,z,a,b⟩
 ·exact .inl h2
 ·obtain⟨z',c⟩:=Jy (id:=id) (n:=n) b;exact .inr ⟨i,z',a,c⟩
theorem Cel.fz {H:List MB}{k:Nat}{x:AV}{e:List AV} (h:Cel H k x e) (n:Nat):∃ H',fzA (fzJ (n+1)) x H=some (.sl false e,H')/\(H' = H∨∃ id m,H' = Go.Ev.mark H id m):=by
 obtain⟨h1,h2⟩:=h;rcases h2 with ⟨t,rfl⟩|⟨i,z,rfl,b⟩
 ·refine⟨H,?_,.inl rfl⟩;simp only[fzA,BH _ e H h1]
 ·exact⟨_,D6 b rfl h1,.inr ⟨_,_,rfl⟩⟩
inductive Marks:List MB->List MB->Prop where
 | refl (H):Marks H H
 | step {H H'} (id n:Nat):Marks H H'->Marks H (mark H' id n)
theorem Marks.trans {A B C:List MB} (h:Marks A B) (g:Marks B C):Marks A C:=by
 induction g with
 | refl=>exact h
 | step id n _ ih=>exact .step id n ih
theorem Marks.cel {H H':List MB} (m:Marks H H') {k:Nat}{x:AV}{e:List AV} (h:Cel H k x e):Cel H' k x e:=by
 induction m with
 | refl=>exact h
 | step id n _ ih=>exact ih.mark id n
theorem Marks.row {H H':List MB} (m:Marks H H') {i k z:Nat}{els:List AV} (h:getRow H i=some (k,els,z)):∃ z',getRow H' i=some (k,els,z'):=by
 induction m with
 | refl=>exact⟨z,h⟩
 | step id n _ ih=>obtain⟨z',h'⟩:=ih;exact Jy h'
theorem Oe (n k:Nat):∀(xs:List AV) (es:List (List AV)) (H:List MB),xs.length=es.length->(∀(i:Nat) (x:AV) (e:List AV),xs[i]?=some x->es[i]?=some e->Cel H k x e) ->
  ∃ H',fzL (fzJ (n+1)) xs H=some (es.map (AV.sl false),H')/\Marks H H'
 | [],[],H,_,_=>⟨H,rfl,.refl H⟩
 | [],_::_,_,h,_=>by simp at h
 | _::_,[],_,h,_=>by simp at h
 | x::xs,e::es,H,hl,h=>by
   obtain⟨H1,h1,h2⟩:=(h 0 x e rfl rfl).fz n;have hm:Marks H H1:=by
    rcases h2 with rfl|⟨id,m,rfl⟩
    ·exact .refl _
    ·exact .step id m (.refl _)
   obtain⟨H2,h3,h4⟩:=Oe n k xs es H1 (by simpa using hl) (fun i x e a b=>hm.cel (h (i+1) x e (by simpa using a) (by simpa using b)));refine⟨H2,?_,hm.trans h4⟩;simp only[fzL,h1,h3,map_cons]
def CelS (H:List MB) (k:Nat) (x:AV) (es:List (List AV)):Prop:=
 (es=[]/\∃ t,x=.sl t [])∨∃ id z xs,x=.ms id 1 xs.length 0 xs.length/\getRow H id=some (1,xs,z)/\xs.length=es.length/\∀(i:Nat) (x:AV) (e:List AV),xs[i]?=some x->es[i]?=some e->Cel H k x e
theorem CelS.fz {H0 H:List MB}{k:Nat}{x:AV}{es:List (List AV)} (h:CelS H0 k x es) (hm:Marks H0 H) (n:Nat):∃ H',fzA (fzJ (n+2)) x H=some (.sl false (es.map (AV.sl false)),H')/\Marks H0 H':=by
 rcases h with ⟨rfl,t,rfl⟩|⟨id,z,xs,rfl,h1,h2,h3⟩
 ·exact⟨H,rfl,hm⟩
 ·obtain⟨z',h4⟩:=hm.row h1;have hm2:Marks H0 (mark H id (0+xs.length)):=.step _ _ hm;obtain⟨H',h5,h6⟩:=Oe n k xs es (mark H id (0+xs.length)) h2 (fun i x e a b=>hm2.cel (h3 i x e a b));refine⟨H',?_,hm2.trans h6⟩;refine IU (n:=n+1) (off:=0) (len:=xs.length) h4 rfl (by omega) ?_;rw[List.drop_zero,List.take_length];exact h5
theorem Q1 {H:List MB}{x0 x1 x2:AV}{b:AutoL} (h0:CelS H 2 x0 (b.cl.map fun s=>s.map spanAV)) (h1:CelS H 1 x1 (b.nx.map fun r=>r.map I)) (h2:Cel H 1 x2 (b.ac.map AV.bool)) :
  ∃ H',fz (.agg [x0,x1,x2]) H=some (autoAV b,H'):=by
 obtain⟨H1,a1,m1⟩:=h0.fz (.refl H) 4;obtain⟨H2,a2,m2⟩:=h1.fz m1 4;obtain⟨H3,a3,_⟩:=(m2.cel h2).fz 5;refine⟨H3,?_⟩;have e0:(b.cl.map fun s=>s.map spanAV).map (AV.sl false)=b.cl.map setAV9:=by rw[map_map];rfl
 have e1:(b.nx.map fun r=>r.map I).map (AV.sl false)=b.nx.map rowAV:=by rw[map_map];rfl
 rw[e0]at a1;rw[e1]at a2;exact CR a1 a2 a3
def cellsL (k:Nat):Nat->List Nat->List AV
 | _,[]=>[]
 | b,n::ns=>.ms b k n 0 n::cellsL k (b+1) ns
theorem DN (k:Nat):∀(b:Nat) (ns:List Nat) (n:Nat),cellsL k b (ns++[n])=cellsL k b ns++[.ms (b+ns.length) k n 0 n]
 | b,[],n=>rfl
 | b,m::ns,n=>by rw[cons_append,cellsL,DN k (b+1) ns n,cellsL,length_cons,show b+1+ns.length=b+(ns.length+1) by omega];rfl
theorem Ax (k:Nat):∀(b:Nat) (ns:List Nat),(cellsL k b ns).length=ns.length
 | _,[]=>rfl
 | b,m::ns=>by rw[cellsL,length_cons,Ax k (b+1) ns,length_cons]
theorem Bg (k:Nat):∀(b:Nat) (ns:List Nat) (i n:Nat),ns[i]?=some n->(cellsL k b ns)[i]?=some (.ms (b+i) k n 0 n)
 | _,[],i,n,h=>by simp at h
 | b,m::ns,0,n,h=>by simp at h;subst h;rfl
 | b,m::ns,i+1,n,h=>by
   rw[cellsL,getElem?_cons_succ,Bg k (b+1) ns i n (by simpa using h),show b+1+i=b+(i+1) by omega]
def rowsC (L:Cls):List MB:=L.map fun s=>.row 2 (s.map spanAV) 0
def rowsN (L:List (List Int)):List MB:=L.map fun r=>.row 1 (r.map I) 0
abbrev E3:AV:=.agg [.sl true [],.sl true [],.sl true []]
theorem M2 {H:List MB}{sT e k by_:Nat}{ze:AV}{ys:List AV} (he:tyElem Pg sT=some e) (hxT:tyNotInt Pg sT=true) (hk:tySz Pg e=some k) (hby:tyBytes Pg e=some by_) (hze:tyZero Pg e=some ze) (hzl:ze.cells.length=k) (hk0:0<k)
  (hs:∀ G,srcElems Pg G e (.sl false ys)=some ys) (hw:ys.all (fun y=>decide (y.cells.length=k)&&y.cells.all AV.ok)=true) (hroom:roomFor (0+ys.length) by_=true) {n:Nat} (hn:H.length=n) :
  evAppend Pg (H++[.row k [] 0]) sT sT (.ms n k 0 0 0) (.sl false ys)=some (.ms n k ys.length 0 ys.length,H++[.row k ys 0]):=by
 subst hn;have hr:getRow (H++[.row k [] 0]) H.length=some (k,[],0):=by simp[getRow]
 have:=Ag (n:=0) he hxT hk hby hze hzl hk0 (hs (H++[.row k [] 0])) hw hr rfl (zero_le _) hroom;rw[this];simp
theorem LK {H:List MB}{i n z:Nat}{rs:List AV}{x:AV}{t:Bool} (hi:getRow H i=some (1,rs,z)) (hz:z<=n) (hn:rs.length=n) (hr:n+1<=4000000000) (hx:x.cells=[x]) (ho:x.ok=true) :
  evAppend Pg H 38 38 (.ms i 1 n 0 n) (.sl t [x])=some (.ms i 1 (n+1) 0 (n+1),H.set i (.row 1 (rs++[x]) z)):=by
 have hs:srcElems Pg H 23 (.sl t [x])=some [x]:=rfl;rw[Ag (e:=23) (by kernel_rfl) (by kernel_rfl) (k:=1) (by kernel_rfl) (by_:=24) (by kernel_rfl) (ze:=.sl true []) (by kernel_rfl) rfl (by omega) hs (by simp[hx,ho]) hi hn hz (AW (by simp;omega) (by omega))];rfl
theorem JG (s:List (Int×Int)):(s.map spanAV).all (fun y=>decide (y.cells.length=2)&&y.cells.all AV.ok)=true:=by
 simp[AV.cells,AV.ok]
theorem SS (s:List Int):(s.map I).all (fun y=>decide (y.cells.length=1)&&y.cells.all AV.ok)=true:=by
 simp[AV.cells,AV.ok]
theorem RZ (s:List Bool):(s.map AV.bool).all (fun y=>decide (y.cells.length=1)&&y.cells.all AV.ok)=true:=by
 simp[AV.cells,AV.ok]
theorem P9 {H:List MB}{s:List (Int×Int)} (h:s.length<=4000000000) {n:Nat} (hn:H.length=n) :
  evAppend Pg (H++[.row 2 [] 0]) 23 23 (.ms n 2 0 0 0) (setAV9 s)=some (.ms n 2 s.length 0 s.length,H++[.row 2 (s.map spanAV) 0]):=by
 have:=M2 (H:=H) (sT:=23) (e:=33) (ys:=s.map spanAV) (by kernel_rfl) (by kernel_rfl) (k:=2) (by kernel_rfl) (by_:=16) (by kernel_rfl) (ze:=.agg [I 0,I 0]) (by kernel_rfl) rfl (by omega) (fun _=>rfl) (JG s) (AW (by simp;omega) (by omega)) hn;rw[length_map]at this;exact this
theorem P8 {H:List MB}{r:List Int} (h:r.length<=4000000000) {n:Nat} (hn:H.length=n) :
  evAppend Pg (H++[.row 1 [] 0]) 22 22 (.ms n 1 0 0 0) (rowAV r)=some (.ms n 1 r.length 0 r.length,H++[.row 1 (r.map I) 0]):=by
 have:=M2 (H:=H) (sT:=22) (e:=3) (ys:=r.map I) (by kernel_rfl) (by kernel_rfl) (k:=1) (by kernel_rfl) (by_:=8) (by kernel_rfl) (ze:=I 0) (by kernel_rfl) rfl (by omega) (fun _=>rfl) (SS r) (AW (by simp;omega) (by omega)) hn;rw[length_map]at this;exact this
def CelT (T:List MB) (k:Nat) (x:AV) (e:List AV):Prop:=AV.plainL e=true/\((∃ t,x=.sl t e)∨∃ id,x=.ms (6+id) k e.length 0 e.length/\T[id]?=some (.row k e 0))
theorem CelT.cel {T:List MB}{k:Nat}{x:AV}{e:List AV} (h:CelT T k x e) (x0 x1 x2 x3 x4 x5:MB):Cel (x0::x1::x2::x3::x4::x5::T) k x e:=by
 obtain⟨h1,h2⟩:=h;refine⟨h1,?_⟩;rcases h2 with h2|⟨id,a,b⟩
 ·exact .inl h2
 ·refine .inr ⟨6+id,0,a,?_⟩;unfold getRow;rw[show 6+id=id+1+1+1+1+1+1 by omega];simp only[getElem?_cons_succ,b]
structure CellsT (T:List MB) (k:Nat) (xs:List AV) (es:List (List AV)):Prop where
 len:xs.length=es.length
 cel:∀(i:Nat) (x:AV) (e:List AV),xs[i]?=some x->es[i]?=some e->CelT T k x e
theorem CellsT.snoc {T:List MB}{k:Nat}{xs:List AV}{es:List (List AV)} (h:CellsT T k xs es) {x:AV}{e:List AV} (hx:CelT T k x e):CellsT T k (xs++[x]) (es++[e]):=by
 have hl:=h.len;refine⟨by simp[hl],fun i y f h1 h2=>?_⟩;rcases Nat.lt_trichotomy i xs.length with g|g|g
 ·rw[getElem?_append_left g]at h1;rw[getElem?_append_left (by omega)]at h2;exact h.cel i y f h1 h2
 ·subst g;rw[getElem?_append_right (by omega)]at h1 h2;rw[hl]at h1 h2;simp at h1 h2;subst h1;subst h2;exact hx
 ·rw[getElem?_eq_none (by simp;omega)]at h1;cases h1
theorem CellsT.set {T:List MB}{k:Nat}{xs:List AV}{es:List (List AV)} (h:CellsT T k xs es) {x:AV}{e:List AV} (hx:CelT T k x e) (j:Nat):CellsT T k (xs.set j x) (es.set j e):=by
 have hl:=h.len;refine⟨by simp[hl],fun i y f h1 h2=>?_⟩;by_cases g:j=i
 ·subst g;have hj:=(zgb.1 h1).1;rw[List.length_set]at hj;rw[getElem?_set_self hj]at h1;rw[getElem?_set_self (by omega)]at h2;cases h1;cases h2;exact hx
 ·rw[getElem?_set_ne g]at h1 h2;exact h.cel i y f h1 h2
theorem CellsT.rep {T:List MB}{k:Nat}{xs:List AV}{es:List (List AV)} (h:CellsT T k xs es) {x:AV}{e:List AV} (hx:CelT T k x e):∀ j,CellsT T k (xs++List.replicate j x) (es++List.replicate j e)
 | 0=>by simpa using h
 | j+1=>by
   have:=(CellsT.rep h hx j).snoc hx;rw[append_assoc,append_assoc,<- List.replicate_succ',<- List.replicate_succ']at this;exact this
theorem HS (cl:Cls) (nx:List (List Int)):CellsT (rowsC cl++rowsN nx) 2 (cellsL 2 6 (cl.map List.length)) (cl.map fun s=>s.map spanAV):=by
 refine⟨by rw[Ax];simp,fun i x e h1 h2=>?_⟩;rw[getElem?_map,Option.map_eq_some_iff]at h2;obtain⟨s,hs,rfl⟩:=h2;rw[Bg 2 6 (cl.map List.length) i s.length (by rw[getElem?_map,hs];rfl)]at h1;cases h1;refine⟨AH s,.inr ⟨i,by rw[length_map],?_⟩⟩;have hi:=(zgb.1 hs).1;rw[getElem?_append_left (by simp[rowsC];exact hi)];simp[rowsC,hs]
theorem HR (cl:Cls) (nx:List (List Int)):CellsT (rowsC cl++rowsN nx) 1 (cellsL 1 (6+cl.length) (nx.map List.length)) (nx.map fun r=>r.map I):=by
 refine⟨by rw[Ax];simp,fun i x e h1 h2=>?_⟩;rw[getElem?_map,Option.map_eq_some_iff]at h2;obtain⟨r,hr,rfl⟩:=h2;rw[Bg 1 (6+cl.length) (nx.map List.length) i r.length (by rw[getElem?_map,hr];rfl)]at h1;cases h1;refine⟨AF r,.inr ⟨cl.length+i,by rw[length_map,Nat.add_assoc],?_⟩⟩;rw[getElem?_append_right (by simp[rowsC])];simp[rowsC,rowsN,hr]
theorem DG {xs ys:List AV}{T:List MB}{b:AutoL}{m n a:Nat} (h0:CellsT T 2 xs (b.cl.map fun s=>s.map spanAV)) (h1:CellsT T 1 ys (b.nx.map fun r=>r.map I)) (hm:xs.length=m) (hn:ys.length=n) (ha:b.ac.length=a) (x0 x1 x2:MB) :
  ∃ H',fz (.agg [.ms 3 1 m 0 m,.ms 4 1 n 0 n,.ms 5 1 a 0 a]) (x0::x1::x2::.row 1 xs 0::.row 1 ys 0::.row 1 (b.ac.map AV.bool) 0::T)=some (autoAV b,H'):=by
 subst hm;subst hn;subst ha;refine Q1 (.inr ⟨3,0,xs,rfl,rfl,h0.len,fun i x e a b=>(h0.cel i x e a b).cel _ _ _ _ _ _⟩) (.inr ⟨4,0,ys,rfl,rfl,h1.len,fun i x e a b=>(h1.cel i x e a b).cel _ _ _ _ _ _⟩) ⟨AN _,.inr ⟨5,0,by rw[length_map],rfl⟩⟩
theorem SI {xs:List AV}{T:List MB}{cl:Cls}{ac:List Bool}{m a:Nat} (h0:CellsT T 2 xs (cl.map fun s=>s.map spanAV)) (hm:xs.length=m) (ha:ac.length=a) (x0 x1 x2 x4:MB) :
  ∃ H',fz (.agg [.ms 3 1 m 0 m,.sl true [],.ms 5 1 a 0 a]) (x0::x1::x2::.row 1 xs 0::x4::.row 1 (ac.map AV.bool) 0::T)=some (autoAV ⟨cl,[],ac⟩,H'):=by
 subst hm;subst ha;refine Q1 (b:=⟨cl,[],ac⟩) (.inr ⟨3,0,xs,rfl,rfl,h0.len,fun i x e a b=>(h0.cel i x e a b).cel _ _ _ _ _ _⟩) (.inl ⟨rfl,true,rfl⟩) ⟨AN _,.inr ⟨5,0,by rw[length_map],rfl⟩⟩
theorem get6 (x0 x1 x2 x3 x4 x5:MB) (T:List MB) (n:Nat):(x0::x1::x2::x3::x4::x5::T)[6+n]?=T[n]?:=by
 rw[show 6+n=n+1+1+1+1+1+1 by omega];simp only[getElem?_cons_succ]
theorem set6 (x0 x1 x2 x3 x4 x5 v:MB) (T:List MB) (n:Nat):(x0::x1::x2::x3::x4::x5::T).set (6+n) v=x0::x1::x2::x3::x4::x5::T.set n v:=by
 rw[show 6+n=n+1+1+1+1+1+1 by omega];simp only[set_cons_succ]
theorem set_self {α:Type}{l:List α}{j:Nat}{x:α} (h:l[j]?=some x):l.set j x=l:=by
 apply ext_getElem?;intro i;by_cases e:j=i
 ·subst e;rw[getElem?_set_self (zgb.1 h).1,h]
 ·rw[getElem?_set_ne e]
theorem Ff (k:Nat):∀(b:Nat) (ns:List Nat) (j n:Nat),cellsL k b (ns.set j n)=(cellsL k b ns).set j (.ms (b+j) k n 0 n)
 | _,[],j,n=>by simp[cellsL]
 | b,m::ns,0,n=>rfl
 | b,m::ns,j+1,n=>by
   rw[set_cons_succ,cellsL,cellsL,Ff k (b+1) ns j n,set_cons_succ,show b+1+j=b+(j+1) by omega]
structure SmallA (a:AutoL):Prop where
 cl:a.cl.length<=1000
 set:∀ s∈a.cl,s.length<=64
 nx:a.nx.length<=1000
 ac:a.ac.length<=1000
 row:∀ r∈a.nx,r.length<=1000
theorem Lb:∀ {cl:Cls},(∀ s∈cl,s.length<=64)->(cl.map List.length).sum<=64*cl.length
 | [],_=>by simp
 | s::cl,h=>by
   have h1:=h s (by simp);have h2:=Lb (cl:=cl) (fun t ht=>h t (by simp[ht]));rw[map_cons,List.sum_cons,length_cons];omega
theorem Bq {a:AutoL} (h1:a.cl.length<=1100) (h2:∀ s∈a.cl,s.length<=64) (h3:a.nx.length<=1100) (h4:a.ac.length<=2100) (h5:∀ r∈a.nx,r.length<=1001):AutoB a:=
 ⟨by omega,by have:=Lb h2;omega,by omega,by omega,fun r hr=>by have:=h5 r hr;omega⟩
theorem SmallA.b {a:AutoL} (h:SmallA a):AutoB a:=Bq (by have:=h.cl;omega) h.set (by have:=h.nx;omega) (by have:=h.ac;omega) (fun r hr=>by have:=h.row r hr;omega)
theorem Da {α:Type}{l:List α}{j:Nat}{x y:α} (h:y∈l.set j x):y∈l∨y=x:=List.mem_or_eq_of_mem_set h
theorem TR {H:List MB}{i:Nat}{ac:List Bool} (hi:getRow H i=some (1,[],0)) (hr:ac.length<=4000000000) :
  evAppend Pg H 40 40 (.ms i 1 0 0 0) (.sl false (ac.map AV.bool))=some (.ms i 1 ac.length 0 ac.length,H.set i (.row 1 (ac.map AV.bool) 0)):=by
 have:=Ag (P:=Pg) (H:=H) (sT:=40) (xT:=40) (e:=4) (n:=0) (x:=.sl false (ac.map AV.bool)) (ys:=ac.map AV.bool) (by kernel_rfl) (by kernel_rfl) (k:=1) (by kernel_rfl) (by_:=1) (by kernel_rfl) (ze:=.bool false) (by kernel_rfl) rfl (by omega) rfl (RZ ac) hi rfl (zero_le _) (AW (by simp;omega) (by omega));rw[this];simp
end Go.Ev
namespace Go.Ev
def spansK:Cls->List Nat->Nat->List (Int×Int)
 | s::cl,j::ks,k=>(if j=k then s else [])++spansK cl ks k
 | _,_,_=>[]
theorem Gt (s:List (Int×Int)) (j k:Nat):∀(cl:Cls) (ks:List Nat),cl.length=ks.length->spansK (cl++[s]) (ks++[j]) k=spansK cl ks k++if j=k then s else []
 | [],[],_=>by simp[spansK]
 | [],_::_,h=>by simp at h
 | _::_,[],h=>by simp at h
 | t::cl,i::ks,h=>by
   rw[cons_append,cons_append,spansK,Gt s j k cl ks (by simpa using h),spansK,append_assoc]
theorem Gu (k:Nat):∀(cl:Cls) (ks:List Nat),(∀ j∈ks,j≠k)->spansK cl ks k=[]
 | [],ks,_=>by cases ks<;>rfl
 | _::_,[],_=>rfl
 | t::cl,i::ks,h=>by
   rw[spansK,Gu k cl ks (fun j hj=>h j (by simp[hj])),if_neg (h i (by simp))];rfl
theorem CA {k:Nat}{p:Int×Int}:∀ {cl:Cls}{ks:List Nat},p∈spansK cl ks k↔∃(c:Nat) (s:List (Int×Int)),cl[c]?=some s/\ks[c]?=some k/\p∈s
 | [],ks=>by cases ks<;>simp[spansK]
 | t::cl,[]=>by simp[spansK]
 | t::cl,i::ks=>by
   rw[spansK,List.mem_append,CA (cl:=cl) (ks:=ks)];constructor
   ·rintro(h|⟨c,s,h1,h2,h3⟩)
    ·split at h
     ·rename_i e;exact⟨0,t,rfl,by simp[e],h⟩
     ·simp at h
    ·exact⟨c+1,s,by simpa using h1,by simpa using h2,h3⟩
   ·rintro⟨c,s,h1,h2,h3⟩;rcases c with _|c
    ·simp only[List.getElem?_cons_zero,Option.some.injEq]at h1 h2;subst h1;subst h2;exact .inl (by simpa using h3)
    ·exact .inr ⟨c,s,by simpa using h1,by simpa using h2,h3⟩
theorem Dq (k:Nat):∀(cl:Cls) (ks:List Nat),(∀ s∈cl,s.length<=64)->(spansK cl ks k).length<=64*cl.length
 | [],ks,_=>by cases ks<;>simp[spansK]
 | t::cl,[],_=>by simp[spansK]
 | t::cl,i::ks,h=>by
   have h1:=h t (by simp);have h2:=Dq k cl ks (fun s hs=>h s (by simp[hs]));rw[spansK,length_append,length_cons];split
   ·omega
   ·simp;omega
def rowsZ (L:Cls):List MB:=L.map fun s=>.row 2 (s.map spanAV) s.length
def spansUp (cl:Cls) (ks:List Nat) (c w:Nat):Cls:=(List.range w).map fun k=>spansK (cl.take c) (ks.take c) k
theorem A6 (cl:Cls) (ks:List Nat) (c w:Nat):(spansUp cl ks c w).length=w:=by simp[spansUp]
theorem BI {cl:Cls}{ks:List Nat}{c w k:Nat} (h:k<w):(spansUp cl ks c w)[k]?=some (spansK (cl.take c) (ks.take c) k):=by simp[spansUp,h]
theorem FQ {α:Type}{s:List α}{k:Nat}{p:α} (h:s[k]?=some p):s.take (k+1)=s.take k++[p]:=by
 rw[List.take_add_one,h];rfl
section
variable {cl:Cls}{ks:List Nat}{c w j:Nat}{s:List (Int×Int)}
theorem Dp (hs:cl[c]?=some s) (hj:ks[c]?=some j) (k:Nat):spansK (cl.take (c+1)) (ks.take (c+1)) k=spansK (cl.take c) (ks.take c) k++if j=k then s else []:=by
 have h1:=(zgb.1 hs).1;have h2:=(zgb.1 hj).1;rw[FQ hs,FQ hj,Gt _ _ _ _ _ (by simp;omega)]
theorem Gr (hs:cl[c]?=some s) (hj:ks[c]?=some j) (h:j<w):spansUp cl ks (c+1) w=(spansUp cl ks c w).set j (spansK (cl.take c) (ks.take c) j++s):=by
 apply ext_getElem?;intro k;by_cases hk:k<w
 ·rw[BI hk,Dp hs hj];by_cases e:j=k
  ·subst e;rw[getElem?_set_self (by rw[A6];exact hk)];simp
  ·rw[getElem?_set_ne e,BI hk];simp[e]
 ·rw[getElem?_eq_none (by rw[A6];omega),getElem?_eq_none (by rw[List.length_set,A6];omega)]
theorem Gs (hs:cl[c]?=some s) (hj:ks[c]?=some w) (h:∀ i∈ks.take c,i<w):spansUp cl ks (c+1) (w+1)=spansUp cl ks c w++[s]:=by
 apply ext_getElem?;intro k;rcases Nat.lt_trichotomy k w with hk|hk|hk
 ·rw[BI (by omega),Dp hs hj,getElem?_append_left (by rw[A6];exact hk),BI hk];have:¬ w=k:=by omega
  simp[this]
 ·subst hk;rw[BI (by omega),Dp hs hj,Gu k _ _ (fun i hi=>by have:=h i hi;omega),getElem?_append_right (by rw[A6];omega),A6];simp
 ·rw[getElem?_eq_none (by rw[A6];omega),getElem?_eq_none (by rw[length_append,A6];simp;omega)]
end
section
variable {α:Type} [DecidableEq α]
theorem Fz {l:List α}{c:Nat}:∀ i∈(numA l).take c,i<(onces (l.take c)).length:=fun i hi=>by
 obtain⟨q,hq,e⟩:=List.getElem_of_mem hi;rw[List.length_take]at hq;have hql:q<l.length:=by have:=Af l;omega
 rw[List.getElem_take]at e;have e1:=Al l (zga hql);rw[zga (by rw[Af];exact hql)]at e1;have e2:(numA l)[q]'(by rw[Af];exact hql)=(onces l).idxOf l[q]:=Option.some.inj e1;have hm:l[q]∈onces (l.take c):=(Ao _ _).2 (List.mem_take_iff_getElem.2 ⟨q,by omega,rfl⟩);obtain⟨m,e3⟩:=B9 l c;rw[<- e,e2,e3,idxOf_append hm];exact List.idxOf_lt_length_of_mem hm
end
section
variable {α:Type} [DecidableEq α]
theorem IL {l:List α}{c j:Nat} (hj:(numA l)[c]?=some j):(onces (l.take c)).length<=(onces l).length/\((j<(onces (l.take c)).length/\(onces (l.take (c+1))).length=(onces (l.take c)).length)∨(j=(onces (l.take c)).length/\(onces (l.take (c+1))).length=(onces (l.take c)).length+1/\(onces (l.take c)).length<(onces l).length)):=by
 have hc:c<l.length:=by
  have:=(zgb.1 hj).1
  rwa [Af]at this
 obtain⟨x,hx⟩:∃ x,l[c]?=some x:=⟨_,zga hc⟩;have e1:=Al _ hx;rw[hj]at e1;have e1:=Option.some.inj e1;have e2:=Eo hx;have e3:=Dy (l.take c) x;rw[<- FQ hx]at e3;obtain⟨mm,e4⟩:=B9 l (c+1);have e5:=congrArg List.length e4;rw[length_append]at e5;rw[e3]at e5 |-;by_cases hm2:x∈l.take c
 ·rw[if_pos hm2]at e2 e5 |-;have:=List.idxOf_lt_length_of_mem ((Ao _ _).2 hm2);exact⟨by omega,.inl ⟨by rw[e1,e2];exact this,rfl⟩⟩
 ·rw[if_neg hm2]at e2 e5 |-;simp only[length_append,length_cons,List.length_nil]at e5 |-;exact⟨by omega,.inr ⟨e1.trans e2,by first|trivial|omega,by omega⟩⟩
end
theorem Sk (x0 x1 x2 x3 x4 x5 x6 x7 x8 x9 x10:MB) (T:List MB) (n:Nat):(x0::x1::x2::x3::x4::x5::x6::x7::x8::x9::x10::T)[11+n]?=T[n]?:=by
 rw[show 11+n=n+1+1+1+1+1+1+1+1+1+1+1 by omega];simp only[getElem?_cons_succ]
theorem Se (x0 x1 x2 x3 x4 x5 x6 x7 x8 x9 x10 v:MB) (T:List MB) (n:Nat):(x0::x1::x2::x3::x4::x5::x6::x7::x8::x9::x10::T).set (11+n) v=x0::x1::x2::x3::x4::x5::x6::x7::x8::x9::x10::T.set n v:=by
 rw[show 11+n=n+1+1+1+1+1+1+1+1+1+1+1 by omega];simp only[set_cons_succ]
theorem PI (L:Cls) (k:Nat) (s:List (Int×Int)):(rowsC L).set k (.row 2 (s.map spanAV) 0)=rowsC (L.set k s):=by simp[rowsC,map_set]
theorem PJ (L:Cls) (s:List (Int×Int)):rowsC L++[.row 2 (s.map spanAV) 0]=rowsC (L++[s]):=by simp[rowsC]
theorem Oy {H:List MB}{id:Nat}{l s:List (Int×Int)}{n:Nat} (hr:H[id]?=some (.row 2 (l.map spanAV) 0)) (hn:l.length=n) (h:n+s.length<=4000000000) :
  evAppend Pg H 23 23 (.ms id 2 n 0 n) (setAV9 s)=some (.ms id 2 (n+s.length) 0 (n+s.length),H.set id (.row 2 ((l++s).map spanAV) 0)):=by
 have:=Ag (P:=Pg) (H:=H) (sT:=23) (xT:=23) (e:=33) (n:=n) (id:=id) (z:=0) (x:=setAV9 s) (els:=l.map spanAV) (ys:=s.map spanAV) (by kernel_rfl) (by kernel_rfl) (k:=2) (by kernel_rfl) (by_:=16) (by kernel_rfl) (ze:=.agg [I 0,I 0]) (by kernel_rfl) rfl (by omega) rfl (JG s) (by unfold getRow;rw[hr]) (by rw[length_map];exact hn) (zero_le _) (AW (by rw[length_map];omega) (by omega));rw[this,length_map,map_append]
theorem O0 {H:List MB}{s:List (Int×Int)}{n:Nat} (hn:H.length=n) (h0:s≠[]) (h:s.length<=4000000000) :
  evAppend Pg H 23 23 (.sl true []) (setAV9 s)=some (.ms n 2 s.length 0 s.length,H++[.row 2 (s.map spanAV) 0]):=by
 subst hn;cases s with
 | nil=>exact absurd rfl h0
 | cons p s=>
   have h1:tyElem Pg 23=some 33:=by kernel_rfl
   have h2:tyNotInt Pg 23=true:=by kernel_rfl
   have h3:tySz Pg 33=some 2:=by kernel_rfl
   have h4:tyBytes Pg 33=some 16:=by kernel_rfl
   have h5:tyZero Pg 33=some (.agg [I 0,I 0]):=by kernel_rfl
   have hs:srcElems Pg H 33 (setAV9 (p::s))=some ((p::s).map spanAV):=rfl;have hroom:roomFor (0+((p::s).map spanAV).length) 16=true:=AW (by rw[length_map];omega) (by omega);unfold evAppend;simp only[h1,h2,h3,h4,h5,hs];rw[if_pos ⟨JG (p::s),by omega,rfl⟩];have hroom2:roomFor (s.length+1) 16=true:=AW (by simp at h;omega) (by omega);simp[hroom2]
end Go.Ev
namespace Go.Ev
attribute [local go_sem] evBin AV.cells strOf An As bndO bnd evEq eqCells not_false_eq_true not_true_eq_false toList_some Array.size_empty length_append tySzE List.head?_drop Nat.mul_one Ac Aj Aa Ad Ae AW
section
def rowsL (nx:List (List Nat)) (ac:List Bool) (m:Nat):List (List Nat):=(chosenA nx ac m).map fun s=>(keptA nx ac m).map fun c=>(renA nx ac m)[nxf nx s c]?.getD 0
def acL (nx:List (List Nat)) (ac:List Bool) (m:Nat):List Bool:=(chosenA nx ac m).map fun s=>ac[s]?.getD false
def widthL (nx:List (List Nat)) (ac:List Bool) (m:Nat):Nat:=(onces (colsA nx m (chosenA nx ac m) (renA nx ac m))).length
def classL (cl:Cls) (nx:List (List Nat)) (ac:List Bool) (k:Nat):List (Int×Int):=normL (spansK cl (kindsA nx ac cl.length) k)
def clsL (cl:Cls) (nx:List (List Nat)) (ac:List Bool):Cls:=(List.range (widthL nx ac cl.length)).map (classL cl nx ac)
def leastW (cl:Cls) (nx:List (List Nat)) (ac:List Bool):AV:=
 if(clsL cl nx ac).any (fun s=>decide (64<s.length)) then .tup [.agg [.sl false [],.sl false [],.sl false []],I 4]
 else .tup [autoN (clsL cl nx ac) (rowsL nx ac cl.length) (acL nx ac cl.length),I 0]
theorem D7 {id n:Nat}{l:List Nat}{H:List MB}{z:Nat} (hr:getRow H id=some (1,l.map NV,z)) (hn:l.length=n):fz (.ms id 1 n 0 n) H=some (nsAV l,mark H id n):=Av hr (by rw[length_map];exact hn) (AR l)
structure LeastIn (cl:Cls) (nx:List (List Nat)) (ac:List Bool):Prop where
 rows:RowsN nx cl.length nx.length
 acl:ac.length=nx.length
 n:nx.length<=1024
 m:cl.length<=1024
 good:∀ s∈cl,s≠[]/\s.length<=64/\∀ p∈s,goodS p
theorem GD (nx:List (List Nat)) (cs states:List Nat):∀(k before:Nat) (b:List Nat),(blocksGo nx cs states k before b).length=b.length
 | 0,_,_=>rfl
 | k+1,before,b=>by
   rw[blocksGo];split
   ·rw[BE]
   ·rw[GD nx cs states k,BE]
theorem Ek (nx:List (List Nat)) (cs states:List Nat) (N:Nat) (hs:states.length<=N):∀(k before:Nat) (b:List Nat),(∀ y∈b,y<=N)->∀ y∈blocksGo nx cs states k before b,y<=N
 | 0,_,_,h=>h
 | k+1,before,b,h=>by
   have hp:∀ y∈putAll b states (numA (states.map (rowA nx cs b))),y<=N:=fun y hy=>by
    rcases D3 _ _ _ y hy with h1|h1
    ·exact h y h1
    ·have:=C9 h1;rw[length_map]at this;omega
   rw[blocksGo];split
   ·exact hp
   ·exact Ek nx cs states N hs k _ _ hp
theorem LG {nx:List (List Nat)}{ac:List Bool}{m:Nat} (hs:(states0 nx m).length<=nx.length) (h0:0<nx.length):∀ y∈blockA nx ac m,y<=nx.length:=by
 refine Ek nx _ _ nx.length hs _ _ _ fun y hy=>?_;obtain⟨s,_,rfl⟩:=mem_map.1 hy;split<;>omega
theorem N7 (nx:List (List Nat)) (ac:List Bool) (m:Nat):(blockA nx ac m).length=nx.length:=by
 rw[blockA,GD];simp[block0]
theorem f60 (cl:Cls) (nx:List (List Nat)) (ac:List Bool) (clf:Int->Nat) (top:Int) (h:(daOf nx ac cl.length clf).Ok top) (hi:LeastIn cl nx ac) (H:List MB) :
  call Pg pol1 60 [autoN cl nx ac] H=some (leastW cl nx ac,H):=by
 obtain⟨hr,ha,hn,hm,hgood⟩:=hi;have h0:0<nx.length:=h.pos;have h110:=f110 cl nx ac clf top h hr ha hn hm;have hstf:=Bv (nx:=nx) (cs:=List.range cl.length) h0 (fun s hs c hc=>h.lt s c hs (mem_range.1 hc));have hprw:AV.plain (leastW cl nx ac)=true:=by unfold leastW;split<;>simp[AV.plain,AV.plainL,AP,AU,AN]
 have h111:=f111 nx (List.range cl.length) cl.length hr (fun c hc=>mem_range.1 hc) h0 (by omega) (by simp;omega);refine AQ Tryz.func60 rfl rfl rfl rfl rfl rfl (fun _=>rfl) (by simp[AV.plain,AV.plainL,AP,AU,AN]) hprw ?_ H;have hroom:roomFor (nx.length:Int).toNat 8=true:=AW (by omega) (by omega);have hroomm:roomFor (cl.length:Int).toNat 8=true:=AW (by omega) (by omega);have hrl:(List.range cl.length).length=cl.length:=by simp
 unfold leastW clsL classL rowsL acL widthL kindsA keptA kindsA;have hbkl:=N7 nx ac cl.length;have hbks:∀ y∈blockA nx ac cl.length,y<=nx.length:=LG (by
  have hbi:=GE h;have:=Ay _ (List.range nx.length) hbi.nodup (fun x hx=>mem_range.2 (hbi.lt x hx))
  simpa using this) h0
 generalize hCH:chosenA nx ac cl.length=ch at *;generalize hRE:renA nx ac cl.length=ren at *;unfold chosenA numsA at hCH;unfold renA numsA at hRE;have hstA:reachA nx (List.range cl.length)=statesA nx cl.length:=rfl;rw[hstA]at h111 hstf;generalize blockA nx ac cl.length=bk at *;generalize statesA nx cl.length=Sx at *;generalize hnm:nx.length=n at *;generalize hcm:cl.length=m at *;simp +contextual (disch:=omega) only[Tryz.f60,dd60,go_sem,simprocAttr,evAppend,map_append,mu60,h110,hroomm,hcm];refine AS (M:=(Ms 60 4)) rfl m (fun i=>(⟨223,[(43,I i),(42,I m),(5,.ms 2 1 m 0 m),(4,nsAV bk),(2,.rf 1 1 0 0),(1,.rf 0 1 0 0)],[.row 3 [autoN cl nx ac] 0,.row 3 [E3] 0,.row 1 (((List.range m).take i++List.replicate (m-i) 0).map NV) 0]⟩:St)) (fun i=>True) ?_ ?_ trivial _ ?_
 ·intro i hi _;have hri:(List.range m)[i]?=some i:=by simp[hi]
  have hfs:=Bd (z:=0) hrl hri;have hfl:=Be (A:=List.range m) (z:=0) hrl (i:=i) (by omega);rw[<- hfs];generalize (List.range m).take i++List.replicate (m-i) 0=A at *;obtain⟨y,hy⟩:∃ y,A[i]?=some y:=⟨_,zga (by omega)⟩;have hy':(A.map NV)[i]?=some (NV y):=by simp[hy]
  have hset:(A.map NV).set i (NV i)=(A.set i i).map NV:=by rw[map_set]
  simp +contextual (disch:=omega) only[Tryz.f60,dd60,go_sem,simprocAttr,evAppend,map_append,mu60,hfl,hy',hset];rfl
 ·intro _;rw[B5 hrl];obtain⟨hbinv,hS0,hSlt⟩:=hstf;have hSnd:=hbinv.nodup;have hSl:Sx.length<=n:=by
   have:=Ay Sx (List.range n) hSnd (fun x hx=>mem_range.2 (hSlt x hx))
   simpa using this
  have hrooms:roomFor (Sx.length:Int).toNat 8=true:=AW (by omega) (by omega);have hz2:∀ b0 b1:MB,fz (.ms 2 1 m 0 m) [b0,b1,.row 1 ((List.range m).map NV) 0]=some (nsAV (List.range m),[b0,b1,.row 1 ((List.range m).map NV) m]):=fun b0 b1=>by
   rw[D7 (id:=2) (z:=0) rfl hrl];simp[mark,getRow]
  have hby:∀ i,pol1.byref 111 i=false:=fun i=>rfl;have c111:=fun b0 b1:MB=>A5 (P:=Pg) (pol:=pol1) (f:=111) (args:=[.sl false (nx.map nsAV),.ms 2 1 m 0 m]) (l:=[.sl false (nx.map nsAV),nsAV (List.range m)]) (H:=[b0,b1,.row 1 ((List.range m).map NV) 0]) (H1:=[b0,b1,.row 1 ((List.range m).map NV) m]) rfl (by simp only[frzArgs,hby,Bool.false_eq_true,if_false,AY _ (show AV.plain (.sl false (nx.map nsAV))=true by simp[AV.plain,AU]),hz2]) (by simp[AV.plainL,AV.plain,AU,AR]);simp only[h111]at c111;have hRMp:=AR (List.range m);generalize (List.range m).map NV=RM at *;obtain⟨oS,hoS⟩:∃ oS,Sx.map (fun s=>bk[s]?.getD 0)=oS:=⟨_,rfl⟩;have hoSl:oS.length=Sx.length:=by rw[<- hoS];simp
  have hoSg:∀ i s:Nat,Sx[i]?=some s->oS[i]?=some (bk[s]?.getD 0):=fun i s h=>by rw[<- hoS];simp[h]
  simp +contextual (disch:=omega) only[Tryz.f60,dd60,go_sem,simprocAttr,evAppend,map_append,mu60,c111,hrooms];refine AS (M:=(Ms 60 11)) rfl Sx.length (fun i=>(⟨223,[(60,I i),(59,I Sx.length),(58,nsAV Sx),(8,.ms 3 1 Sx.length 0 Sx.length),(7,nsAV Sx),(4,nsAV bk),(2,.rf 1 1 0 0),(1,.rf 0 1 0 0)],[.row 3 [autoN cl nx ac] 0,.row 3 [E3] 0,.row 1 RM m,.row 1 ((oS.take i++List.replicate (Sx.length-i) 0).map NV) 0]⟩:St)) (fun i=>True) ?_ ?_ trivial _ ?_
  ·intro i hi _;obtain⟨s,hsi⟩:∃ s,Sx[i]?=some s:=⟨_,zga hi⟩;have hsi':(Sx.map NV)[i]?=some (NV s):=by simp[hsi]
   have hsl:=hSlt s (zgc hsi);obtain⟨v,hv⟩:∃ v,bk[s]?=some v:=⟨_,zga (by omega)⟩;have hv':(bk.map NV)[s]?=some (NV v):=by simp[hv]
   have hoi:=hoSg i s hsi;rw[hv,Option.getD_some]at hoi;have hfs:=Bd (z:=0) hoSl hoi;have hfl:=Be (A:=oS) (z:=0) hoSl (i:=i) (by omega);rw[<- hfs];generalize oS.take i++List.replicate (Sx.length-i) 0=A at *;obtain⟨y,hy⟩:∃ y,A[i]?=some y:=⟨_,zga (by omega)⟩;have hy':(A.map NV)[i]?=some (NV y):=by simp[hy]
   have hset:(A.map NV).set i (NV v)=(A.set i v).map NV:=by rw[map_set]
   simp +contextual (disch:=omega) only[Tryz.f60,dd60,go_sem,simprocAttr,evAppend,map_append,mu60,hsi',hv',hfl,hy',hset];rfl
  ·intro _;rw[B5 hoSl];rw[hoS]at hCH hRE;have hbkb:∀ y∈oS,y<=1000000:=fun y hy=>by
    rw[<- hoS]at hy;obtain⟨s,_,rfl⟩:=mem_map.1 hy;cases e:bk[s]? with
    | none=>simp
    | some x=>have:=hbks x (zgc e);simp;omega
   have h112:=f112 oS (by omega) hbkb;have hz3:∀ b0 b1 b2:MB,fz (.ms 3 1 Sx.length 0 Sx.length) [b0,b1,b2,.row 1 (oS.map NV) 0]=some (nsAV oS,[b0,b1,b2,.row 1 (oS.map NV) Sx.length]):=fun b0 b1 b2=>by
    rw[D7 (id:=3) (z:=0) rfl hoSl];simp[mark,getRow]
   have c112:=fun b0 b1 b2:MB=>A5 (P:=Pg) (pol:=pol1) (f:=112) (args:=[.ms 3 1 Sx.length 0 Sx.length]) (l:=[nsAV oS]) (H:=[b0,b1,b2,.row 1 (oS.map NV) 0]) (H1:=[b0,b1,b2,.row 1 (oS.map NV) Sx.length]) rfl (by simp only[frzArgs,show pol1.byref 112 0=false from rfl,Bool.false_eq_true,if_false,hz3]) (by simp[AV.plainL,AV.plain,AR]);simp only[h112]at c112;have hnl:(numA oS).length=Sx.length:=by rw[Af];exact hoSl
   have hnb:∀ y∈numA oS,y<Sx.length:=fun y hy=>by have:=C9 hy;omega
   have hF:=CE oS;have hFl:=B4 oS;have hmany:=Bl oS;have h113:=f113 (numA oS) (onces oS).length (by omega) (fun y hy=>by have:=hnb y hy;omega) (by omega);have hRSp:=AR oS;generalize oS.map NV=RS1 at *;generalize hNU:numA oS=nums at *;generalize hFF:firstsA nums=F at *;generalize (onces oS).length=many at *;have hroom4:roomFor (many:Int).toNat 8=true:=AW (by omega) (by omega);simp +contextual (disch:=omega) only[Tryz.f60,dd60,go_sem,simprocAttr,evAppend,map_append,mu60,c112,h113,hroom4];have hchl:ch.length=F.length:=by rw[<- hCH];simp
   have hFg:∀ j i:Nat,F[j]?=some i->∃ s,Sx[i]?=some s/\ch[j]?=some s:=fun j i h=>by
    obtain⟨a1,a2,a3⟩:=hF.get j i h;obtain⟨s,hs⟩:∃ s,Sx[i]?=some s:=⟨_,zga (by omega)⟩;exact⟨s,hs,by rw[<- hCH];simp[h,hs]⟩
   refine AS (M:=(Ms 60 18)) rfl F.length (fun j=>(⟨223,[(84,I j),(83,I F.length),(82,nsAV F),(13,.ms 4 1 j 0 j),(11,nsAV nums),(7,nsAV Sx),(2,.rf 1 1 0 0),(1,.rf 0 1 0 0)],[.row 3 [autoN cl nx ac] 0,.row 3 [E3] 0,.row 1 RM m,.row 1 RS1 Sx.length,.row 1 ((ch.take j).map NV) 0]⟩:St)) (fun i=>True) ?_ ?_ trivial _ rfl
   ·intro j hj _;obtain⟨i,hFi⟩:∃ i,F[j]?=some i:=⟨_,zga hj⟩;have hFi':(F.map NV)[j]?=some (NV i):=by simp[hFi]
    obtain⟨s,hs,hcj⟩:=hFg j i hFi;have hs':(Sx.map NV)[i]?=some (NV s):=by simp[hs]
    have hctl:(ch.take j).length=j:=by rw[List.length_take];omega
    rw[AZ hcj];generalize ch.take j=A at *;have a1:=fun(b0 b1 b2 b3:MB) (t:Bool)=>O1 (H:=[b0,b1,b2,b3,.row 1 (A.map NV) 0]) (i:=4) (n:=j) (c:=s) (t:=t) rfl hctl (by omega);simp only[OI,List.set_cons_zero]at a1;simp +contextual (disch:=omega) only[Tryz.f60,dd60,go_sem,simprocAttr,mu60,hFi',hs',a1];rfl
   ·intro _;rw[show ch.take F.length=ch from take_of_length_le (by omega)];have hchlt:∀ s∈ch,s<n:=fun s hs=>by
     obtain⟨j,hj,e⟩:=List.getElem_of_mem hs;obtain⟨i,hi2⟩:∃ i,F[j]?=some i:=⟨_,zga (by omega)⟩;obtain⟨s2,h1,h2⟩:=hFg j i hi2;rw[zga hj,e]at h2;cases h2;exact hSlt _ (zgc h1)
    have hchn:ch.length<=n:=by omega
    simp +contextual (disch:=omega) only[Tryz.f60,dd60,go_sem,simprocAttr,evAppend,map_append,mu60,hnm,hroom];refine AS (M:=(Ms 60 24)) rfl Sx.length (fun i=>(⟨223,[(102,I i),(101,I Sx.length),(100,nsAV Sx),(16,.ms 5 1 n 0 n),(13,.ms 4 1 F.length 0 F.length),(11,nsAV nums),(2,.rf 1 1 0 0),(1,.rf 0 1 0 0)],[.row 3 [autoN cl nx ac] 0,.row 3 [E3] 0,.row 1 RM m,.row 1 RS1 Sx.length,.row 1 (ch.map NV) 0,.row 1 ((putAll (List.replicate n 0) (Sx.take i) (nums.take i)).map NV) 0]⟩:St)) (fun i=>True) ?_ ?_ trivial _ ?_
    ·intro i hi _;obtain⟨s,hsi⟩:∃ s,Sx[i]?=some s:=⟨_,zga hi⟩;have hsi':(Sx.map NV)[i]?=some (NV s):=by simp[hsi]
     have hsl:=hSlt s (zgc hsi);obtain⟨v,hv⟩:∃ v,nums[i]?=some v:=⟨_,zga (by omega)⟩;have hv':(nums.map NV)[i]?=some (NV v):=by simp[hv]
     have hst:putAll (List.replicate n 0) (Sx.take (i+1)) (nums.take (i+1))=(putAll (List.replicate n 0) (Sx.take i) (nums.take i)).set s v:=by
      rw[AZ hsi,AZ hv,EO _ _ _ _ _ (by simp;omega)]
     have hpl:=BE (Sx.take i) (nums.take i) (List.replicate n 0);rw[List.length_replicate]at hpl;rw[hst];generalize putAll (List.replicate n 0) (Sx.take i) (nums.take i)=A at *;obtain⟨y,hy⟩:∃ y,A[s]?=some y:=⟨_,zga (by omega)⟩;have hy':(A.map NV)[s]?=some (NV y):=by simp[hy]
     have hset:(A.map NV).set s (NV v)=(A.set s v).map NV:=by rw[map_set]
     simp +contextual (disch:=omega) only[Tryz.f60,dd60,go_sem,simprocAttr,evAppend,map_append,mu60,hsi',hv',hpl,hy',hset];rfl
    ·intro _;rw[List.take_length,show nums.take Sx.length=nums from take_of_length_le (by omega),hRE];have hrenl:ren.length=n:=by rw[<- hRE,BE];simp
     have hrenb:∀ y∈ren,y<n:=fun y hy=>by
      rw[<- hRE]at hy;rcases D3 _ _ _ y hy with h|h
      ·rw[List.eq_of_mem_replicate h];exact h0
      ·have:=hnb y h;omega
     have h114:=f114 nx ch ren m (by rw[hrenl];exact hr) (by rw[hnm];exact hchlt) (fun y hy=>by have:=hrenb y hy;omega) (by omega) (by omega) (by omega);have hz4:∀ b0 b1 b2 b3 b5:MB,fz (.ms 4 1 F.length 0 F.length) [b0,b1,b2,b3,.row 1 (ch.map NV) 0,b5]=some (nsAV ch,[b0,b1,b2,b3,.row 1 (ch.map NV) F.length,b5]):=fun b0 b1 b2 b3 b5=>by
      rw[D7 (id:=4) (z:=0) rfl hchl];simp[mark,getRow]
     have hz5:∀ b0 b1 b2 b3 b4:MB,fz (.ms 5 1 n 0 n) [b0,b1,b2,b3,b4,.row 1 (ren.map NV) 0]=some (nsAV ren,[b0,b1,b2,b3,b4,.row 1 (ren.map NV) n]):=fun b0 b1 b2 b3 b4=>by
      rw[D7 (id:=5) (z:=0) rfl hrenl];simp[mark,getRow]
     have c114:=fun b0 b1 b2 b3:MB=>A5 (P:=Pg) (pol:=pol1) (f:=114) (args:=[.sl false (nx.map nsAV),.ms 4 1 F.length 0 F.length,.ms 5 1 n 0 n,NV m]) (l:=[.sl false (nx.map nsAV),nsAV ch,nsAV ren,NV m]) (H:=[b0,b1,b2,b3,.row 1 (ch.map NV) 0,.row 1 (ren.map NV) 0]) (H1:=[b0,b1,b2,b3,.row 1 (ch.map NV) F.length,.row 1 (ren.map NV) n]) rfl (by simp only[frzArgs,show ∀ i,pol1.byref 114 i=false from fun _=>rfl,Bool.false_eq_true,if_false,AY _ (show AV.plain (.sl false (nx.map nsAV))=true by simp[AV.plain,AU]),hz4,hz5,AY _ (show AV.plain (NV m)=true from rfl)]) (by simp[AV.plainL,AV.plain,AU,AR]);simp only[h114]at c114;have hkl:(numA (colsA nx m ch ren)).length=m:=by rw[Af,BX]
     have hwm:=Bl (colsA nx m ch ren);rw[BX]at hwm;have hkb:∀ y∈numA (colsA nx m ch ren),y<(onces (colsA nx m ch ren)).length:=fun y hy=>by
      obtain⟨i,hi2,e⟩:=List.getElem_of_mem hy;exact Ki (l:=colsA nx m ch ren) (i:=i) (by rw[zga hi2,e])
     have hK:=CE (colsA nx m ch ren);rw[BX]at hK;have hKl:=B4 (colsA nx m ch ren);have h113k:=f113 (numA (colsA nx m ch ren)) (onces (colsA nx m ch ren)).length (by omega) (fun y hy=>by have:=hkb y hy;omega) (by omega);generalize hKI:numA (colsA nx m ch ren)=kinds at *;generalize hKE:firstsA kinds=kept at *;have hKN:∀(c j:Nat),kinds[c]?=some j->((onces ((colsA nx m ch ren).take c)).length<=(onces (colsA nx m ch ren)).length/\((j<(onces ((colsA nx m ch ren).take c)).length/\(onces ((colsA nx m ch ren).take (c+1))).length=(onces ((colsA nx m ch ren).take c)).length)∨(j=(onces ((colsA nx m ch ren).take c)).length/\(onces ((colsA nx m ch ren).take (c+1))).length=(onces ((colsA nx m ch ren).take c)).length+1/\(onces ((colsA nx m ch ren).take c)).length<(onces (colsA nx m ch ren)).length))):=fun c j hj=>by
      rw[<- hKI]at hj;exact IL hj
     have hKT:∀ c,∀ i∈kinds.take c,i<(onces ((colsA nx m ch ren).take c)).length:=fun c i hi=>by rw[<- hKI]at hi;exact Fz i hi
     have hKm:(onces ((colsA nx m ch ren).take m)).length=(onces (colsA nx m ch ren)).length:=by rw[take_of_length_le (by rw[BX];omega)]
     obtain⟨wd,hwd⟩:∃ wd:Nat->Nat,wd=fun c=>(onces ((colsA nx m ch ren).take c)).length:=⟨_,rfl⟩;have hwd0:wd 0=0:=by rw[hwd];rfl
     have hKN2:∀(c j:Nat),kinds[c]?=some j->(wd c<=(onces (colsA nx m ch ren)).length/\((j<wd c/\wd (c+1)=wd c)∨(j=wd c/\wd (c+1)=wd c+1/\wd c<(onces (colsA nx m ch ren)).length))):=by rw[hwd];exact hKN
     have hKT2:∀ c,∀ i∈kinds.take c,i<wd c:=by rw[hwd];exact hKT
     have hwdm:wd m=(onces (colsA nx m ch ren)).length:=by rw[hwd];exact hKm
     clear hKN hKT hKm hwd;generalize (onces (colsA nx m ch ren)).length=width at *;simp +contextual (disch:=omega) only[Tryz.f60,dd60,go_sem,simprocAttr,evAppend,map_append,mu60,c114,h113k,hcm];obtain⟨rows,hrows⟩:∃ rows,(ch.map fun s=>kept.map fun c=>ren[nxf nx s c]?.getD 0)=rows:=⟨_,rfl⟩;obtain⟨acs,hacs⟩:∃ acs,(ch.map fun s=>ac[s]?.getD false)=acs:=⟨_,rfl⟩;rw[hrows,hacs];have hrowl:rows.length=F.length:=by rw[<- hrows];simp[hchl]
     have hacl:acs.length=F.length:=by rw[<- hacs];simp[hchl]
     have hkeptlt:∀ c∈kept,c<m:=fun c hc=>by
      obtain⟨k,hk,e⟩:=List.getElem_of_mem hc;exact(hK.get k c (by rw[zga hk,e])).1
     have hCHM:∀(j s:Nat),ch[j]?=some s->(ch.map NV)[j]?=some (NV s):=fun j s h=>by simp[h]
     have hCHMl:(ch.map NV).length=F.length:=by rw[length_map];exact hchl
     have hCHp:=AR ch;generalize ch.map NV=CHM at *;refine AS (M:=(Ms 60 32)) rfl F.length (fun j=>(⟨223,[(131,I j),(130,I F.length),(129,.ms 4 1 F.length 0 F.length),(22,.rf 6 1 0 0),(21,nsAV kept),(20,NV width),(19,nsAV kinds),(16,.ms 5 1 n 0 n),(2,.rf 1 1 0 0),(1,.rf 0 1 0 0)],[.row 3 [autoN cl nx ac] 0,.row 3 [E3] 0,.row 1 RM m,.row 1 RS1 Sx.length,.row 1 CHM F.length,.row 1 (ren.map NV) n,.row 3 [.agg [.ms 7 1 0 0 0,.ms 8 1 j 0 j,.ms 9 1 j 0 j]] 0,.row 1 [] 0,.row 1 ((rows.take j).map nsAV) 0,.row 1 ((acs.take j).map AV.bool) 0]⟩:St)) (fun i=>True) ?_ ?_ trivial _ ?_
     ·intro j hj _;obtain⟨s,hs⟩:∃ s,ch[j]?=some s:=⟨_,zga (by omega)⟩;have hs':=hCHM j s hs;have hsl:=hchlt s (zgc hs);obtain⟨rw1,hrw1⟩:∃ r,(kept.map fun c=>ren[nxf nx s c]?.getD 0)=r:=⟨_,rfl⟩;have hrj:rows[j]?=some rw1:=by rw[<- hrows,<- hrw1];simp[hs]
      have hrl1:rw1.length=kept.length:=by rw[<- hrw1];simp
      obtain⟨bv,hbv⟩:∃ b,ac[s]?=some b:=⟨_,zga (by omega)⟩;have hbv':(ac.map AV.bool)[s]?=some (.bool bv):=by simp[hbv]
      have haj:acs[j]?=some bv:=by rw[<- hacs];simp[hs,hbv]
      have htl:(rows.take j).length=j:=by rw[List.length_take];omega
      have htl2:(acs.take j).length=j:=by rw[List.length_take];omega
      rw[AZ hrj,AZ haj];generalize rows.take j=A at *;generalize acs.take j=B at *;have hroomw:roomFor (width:Int).toNat 8=true:=AW (by omega) (by omega);simp +contextual (disch:=omega) only[Tryz.f60,dd60,go_sem,simprocAttr,evAppend,map_append,mu60,hs',hCHMl,hroomw];refine AS (M:=(Ms 60 36)) rfl kept.length (fun c=>(⟨223,[(139,I c),(138,I kept.length),(137,nsAV kept),(131,I j),(130,I F.length),(129,.ms 4 1 F.length 0 F.length),(25,.ms 10 1 c 0 c),(24,NV s),(22,.rf 6 1 0 0),(21,nsAV kept),(20,NV width),(19,nsAV kinds),(16,.ms 5 1 n 0 n),(2,.rf 1 1 0 0),(1,.rf 0 1 0 0)],[.row 3 [autoN cl nx ac] 0,.row 3 [E3] 0,.row 1 RM m,.row 1 RS1 Sx.length,.row 1 CHM F.length,.row 1 (ren.map NV) n,.row 3 [.agg [.ms 7 1 0 0 0,.ms 8 1 j 0 j,.ms 9 1 j 0 j]] 0,.row 1 [] 0,.row 1 (A.map nsAV) 0,.row 1 (B.map AV.bool) 0,.row 1 ((rw1.take c).map NV) 0]⟩:St)) (fun i=>True) ?_ ?_ trivial _ ?_
      ·intro c hc _;obtain⟨k,hk⟩:∃ k,kept[c]?=some k:=⟨_,zga hc⟩;have hk':(kept.map NV)[c]?=some (NV k):=by simp[hk]
       have hkm:=hkeptlt k (zgc hk);obtain⟨r,t,e1,e2,e3,e4⟩:=hr.nxf_lt (by omega:s<nx.length) hkm;have e1':(nx.map nsAV)[s]?=some (nsAV r):=by simp[e1]
       have e2':(r.map NV)[k]?=some (NV t):=by simp[e2]
       obtain⟨u,hu⟩:∃ u,ren[t]?=some u:=⟨_,zga (by omega)⟩;have hu':(ren.map NV)[t]?=some (NV u):=by simp[hu]
       have hrc:rw1[c]?=some u:=by rw[<- hrw1];simp[hk,e3,hu]
       have hctl:(rw1.take c).length=c:=by rw[List.length_take];omega
       rw[AZ hrc];generalize rw1.take c=D at *;have a1:=fun(b0 b1 b2 b3 b4 b5 b6 b7 b8 b9:MB) (t:Bool)=>O1 (H:=[b0,b1,b2,b3,b4,b5,b6,b7,b8,b9,.row 1 (D.map NV) 0]) (i:=10) (n:=c) (c:=u) (t:=t) rfl hctl (by omega);simp only[set_cons_succ,List.set_cons_zero]at a1;simp +contextual (disch:=omega) only[Tryz.f60,dd60,go_sem,simprocAttr,mu60,hk',e1',e2',hrenl,hu',a1];generalize D++[u]=D2;exact(by first|rfl|(refine AO rfl (by rfl) (by rfl) (by rfl) ?_ ?_<;>simp[AV.underL,AV.under,MB.under,AG,AJ,AF,AH,AK,AM,-map_take,AP,AU,AR,AN,hRMp,hRSp,hCHp]))
      ·intro _;rw[show rw1.take kept.length=rw1 from take_of_length_le (by omega)];have hAm:(A.map nsAV).length=j:=by rw[length_map];exact htl
       have a1:=fun(b0 b1 b2 b3 b4 b5 b6 b7 b9 b10:MB) (t:Bool)=>HD (H:=[b0,b1,b2,b3,b4,b5,b6,b7,.row 1 (A.map nsAV) 0,b9,b10]) (i:=8) (n:=j) (x:=.ms 10 1 kept.length 0 kept.length) (t:=t) rfl (zero_le _) hAm (by omega) rfl rfl;have a2:=fun(b0 b1 b2 b3 b4 b5 b6 b7 b8 b10:MB) (t:Bool)=>FL (H:=[b0,b1,b2,b3,b4,b5,b6,b7,b8,.row 1 (B.map AV.bool) 0,b10]) (i:=9) (n:=j) (x:=bv) (t:=t) rfl (zero_le _) htl2 (by omega);simp only[set_cons_succ,List.set_cons_zero]at a1 a2;have hz:∀ b0 b1 b2 b3 b4 b5 b6 b7 b8 b9:MB,fzs (A.map nsAV++[.ms 10 1 kept.length 0 kept.length]) [b0,b1,b2,b3,b4,b5,b6,b7,b8,b9,.row 1 (rw1.map NV) 0]=some (A.map nsAV++[nsAV rw1],[b0,b1,b2,b3,b4,b5,b6,b7,b8,b9,.row 1 (rw1.map NV) kept.length]):=fun b0 b1 b2 b3 b4 b5 b6 b7 b8 b9=>by
        refine Dd ?_ _ (AU A);have:=D7 (id:=10) (z:=0) (H:=[b0,b1,b2,b3,b4,b5,b6,b7,b8,b9,.row 1 (rw1.map NV) 0]) rfl hrl1;unfold fz at this;rw[this];simp[mark,getRow]
       have hbq:=AV.beqL_refl (A.map nsAV++[.ms 10 1 kept.length 0 kept.length]);simp +contextual (disch:=omega) only[Tryz.f60,dd60,go_sem,simprocAttr,mu60,a1,hz,hbq,hbv',a2];repeat' (first|intro _|apply And.intro|(unfold dOk;kernel_rfl)|exact St.beq_refl _|exact Ah|(show altO _ _ _ _=true;kernel_rfl)|(show (_||_)=true;kernel_rfl)|(show (_&&_)=true;kernel_rfl))
       have e9:A.map nsAV++[nsAV rw1]=(A++[rw1]).map nsAV:=by rw[map_append];rfl
       rw[e9];generalize A++[rw1]=A2;generalize B++[bv]=B2;exact(by first|rfl|(refine AO rfl (by rfl) (by rfl) (by rfl) ?_ ?_<;>simp[AV.underL,AV.under,MB.under,AG,AJ,AF,AH,AK,AM,-map_take,AP,AU,AR,AN,hRMp,hRSp,hCHp]))
      ·rw[List.take_zero];exact(by first|rfl|(refine AO rfl (by rfl) (by rfl) (by rfl) ?_ ?_<;>simp[AV.underL,AV.under,MB.under,AG,AJ,AF,AH,AK,AM,-map_take,AP,AU,AR,AN,hRMp,hRSp,hCHp]))
     ·intro _;rw[show rows.take F.length=rows from take_of_length_le (by omega),show acs.take F.length=acs from take_of_length_le (by omega)];have hroomc:roomFor (width:Int).toNat 24=true:=AW (by omega) (by omega);simp +contextual (disch:=omega) only[Tryz.f60,dd60,go_sem,simprocAttr,evAppend,map_append,mu60,hroomc,hcm];have hsz:∀ c k,(spansK (cl.take c) (kinds.take c) k).length<=64*1024:=fun c k=>by
       have:=Dq k (cl.take c) (kinds.take c) (fun s hs=>(hgood s (List.mem_of_mem_take hs)).2.1);rw[List.length_take,hcm]at this;omega
      refine AS (M:=(Ms 60 45)) rfl m (fun c=>(⟨223,[(180,I c),(179,I m),(178,.sl false (cl.map setAV9)),(28,.ms 10 1 width 0 width),(22,.rf 6 1 0 0),(19,nsAV kinds),(2,.rf 1 1 0 0)],.row 3 [autoN cl nx ac] 0::.row 3 [E3] 0::.row 1 RM m::.row 1 RS1 Sx.length::.row 1 CHM F.length::.row 1 (ren.map NV) n::.row 3 [.agg [.ms 7 1 0 0 0,.ms 8 1 F.length 0 F.length,.ms 9 1 F.length 0 F.length]] 0::.row 1 [] 0::.row 1 (rows.map nsAV) 0::.row 1 (acs.map AV.bool) 0::.row 1 (cellsL 2 11 ((spansUp cl kinds c (wd c)).map List.length)++List.replicate (width-wd c) (.sl true [])) 0::rowsC (spansUp cl kinds c (wd c))⟩:St)) (fun i=>True) ?_ ?_ trivial _ ?_
      ·intro c hc _;obtain⟨s,hs⟩:∃ s,cl[c]?=some s:=⟨_,zga (by omega)⟩;have hs':(cl.map setAV9)[c]?=some (setAV9 s):=by simp[hs]
       obtain⟨k,hk⟩:∃ k,kinds[c]?=some k:=⟨_,zga (by omega)⟩;have hk':(kinds.map NV)[c]?=some (NV k):=by simp[hk]
       obtain⟨hs0,hs64,_⟩:=hgood s (zgc hs);obtain⟨hwle,hcase⟩:=hKN2 c k hk;have hup:=A6 cl kinds c (wd c);have hszk:=hsz c k;rcases hcase with ⟨hlt,hwe⟩|⟨hke,hwe,hwlt⟩
       ·have ho:=Gr hs hk hlt;have hg:=BI (cl:=cl) (ks:=kinds) (c:=c) hlt;rw[hwe,ho];generalize spansK (cl.take c) (kinds.take c) k=l at *;generalize spansUp cl kinds c (wd c)=U at *;generalize wd c=w at *;have hrow:∀ x0 x1 x2 x3 x4 x5 x6 x7 x8 x9 x10:MB,(x0::x1::x2::x3::x4::x5::x6::x7::x8::x9::x10::rowsC U)[11+k]?=some (.row 2 (l.map spanAV) 0):=fun x0 x1 x2 x3 x4 x5 x6 x7 x8 x9 x10=>by
         rw[Sk];simp[rowsC,hg]
        have a1:=fun(x0 x1 x2 x3 x4 x5 x6 x7 x8 x9 x10:MB)=>Oy (s:=s) (hrow x0 x1 x2 x3 x4 x5 x6 x7 x8 x9 x10) rfl (by omega);simp only[Se,PI]at a1;have hlen:(U.map List.length)[k]?=some l.length:=by rw[getElem?_map,hg];rfl
        have hC:(cellsL 2 11 (U.map List.length)++List.replicate (width-w) (AV.sl true []))[k]?=some (.ms (11+k) 2 l.length 0 l.length):=by
         rw[getElem?_append_left (by rw[Ax];simp;omega)];exact Bg 2 11 _ k _ hlen
        have hCl:(cellsL 2 11 (U.map List.length)++List.replicate (width-w) (AV.sl true [])).length=width:=by simp[Ax];omega
        have hCs:(cellsL 2 11 (U.map List.length)++List.replicate (width-w) (AV.sl true [])).set k (.ms (11+k) 2 (l.length+s.length) 0 (l.length+s.length))=cellsL 2 11 ((U.set k (l++s)).map List.length)++List.replicate (width-w) (AV.sl true []):=by
         rw[List.set_append_left _ _ (by rw[Ax];simp;omega),map_set,Ff,length_append]
        generalize cellsL 2 11 (U.map List.length)++List.replicate (width-w) (AV.sl true [])=C at *;simp +contextual (disch:=omega) only[Tryz.f60,dd60,go_sem,simprocAttr,map_append,mu60,hs',hk',hC,hCl,hCs,a1];repeat' (first|intro _|apply And.intro|(unfold dOk;kernel_rfl)|exact St.beq_refl _|exact Ah|(show altO _ _ _ _=true;kernel_rfl)|(show (_||_)=true;kernel_rfl)|(show (_&&_)=true;kernel_rfl))
        rfl
       ·subst hke;have ho:=Gs hs hk (hKT2 c);rw[hwe,ho];generalize spansUp cl kinds c (wd c)=U at *;generalize wd c=w at *;have hUl:(rowsC U).length=w:=by simp[rowsC,hup]
        have a1:=fun(x0 x1 x2 x3 x4 x5 x6 x7 x8 x9 x10:MB)=>O0 (H:=x0::x1::x2::x3::x4::x5::x6::x7::x8::x9::x10::rowsC U) (s:=s) (n:=11+w) (by simp[hUl];omega) hs0 (by omega);simp only[cons_append,PJ]at a1;have hC:(cellsL 2 11 (U.map List.length)++List.replicate (width-w) (AV.sl true []))[w]?=some (.sl true []):=by
         rw[getElem?_append_right (by rw[Ax];simp;omega),Ax,length_map,hup,sub_self,List.getElem?_replicate,if_pos (by omega)]
        have hCl:(cellsL 2 11 (U.map List.length)++List.replicate (width-w) (AV.sl true [])).length=width:=by simp[Ax];omega
        have hCs:(cellsL 2 11 (U.map List.length)++List.replicate (width-w) (AV.sl true [])).set w (.ms (11+w) 2 s.length 0 s.length)=cellsL 2 11 ((U++[s]).map List.length)++List.replicate (width-(w+1)) (AV.sl true []):=by
         have hl:(cellsL 2 11 (U.map List.length)).length=w:=by rw[Ax];simp[hup]
         rw[List.set_append_right _ _ (by omega),hl,sub_self,map_append,map_cons,List.map_nil,DN,show width-w=(width-(w+1))+1 by omega,List.replicate_succ,List.set_cons_zero,append_assoc];simp[hup]
        generalize cellsL 2 11 (U.map List.length)++List.replicate (width-w) (AV.sl true [])=C at *;simp +contextual (disch:=omega) only[Tryz.f60,dd60,go_sem,simprocAttr,map_append,mu60,hs',hk',hC,hCl,hCs,a1];repeat' (first|intro _|apply And.intro|(unfold dOk;kernel_rfl)|exact St.beq_refl _|exact Ah|(show altO _ _ _ _=true;kernel_rfl)|(show (_||_)=true;kernel_rfl)|(show (_&&_)=true;kernel_rfl))
        rfl
      ·intro _;rw[hwdm];have hcltk:cl.take m=cl:=take_of_length_le (by omega);have hkitk:kinds.take m=kinds:=take_of_length_le (by omega);obtain⟨SP,hSP⟩:∃ SP,spansUp cl kinds m width=SP:=⟨_,rfl⟩;have hSPl:SP.length=width:=by rw[<- hSP];exact A6 _ _ _ _
       have hSPg:∀ k,k<width->SP[k]?=some (spansK cl kinds k):=fun k hk=>by
        have:=BI (cl:=cl) (ks:=kinds) (c:=m) hk;rw[hcltk,hkitk,hSP]at this;exact this
       have hszm:=fun k=>hsz m k;rw[hcltk,hkitk]at hszm;obtain⟨CL,hCL⟩:∃ CL,((List.range width).map fun k=>normL (spansK cl kinds k))=CL:=⟨_,rfl⟩;have hCLl:CL.length=width:=by rw[<- hCL];simp
       have hCLg:∀ k,k<width->CL[k]?=some (normL (spansK cl kinds k)):=fun k hk=>by rw[<- hCL];simp[hk]
       have hSKg:∀ k,∀ p∈spansK cl kinds k,goodS p:=fun k p hp=>by
        obtain⟨c,s,h1,_,h3⟩:=CA.1 hp;exact(hgood s (zgc h1)).2.2 p h3
       have hSK0:∀ k,k<width->0<(spansK cl kinds k).length:=fun k hk=>by
        obtain⟨c,hc⟩:∃ c,kept[k]?=some c:=⟨_,zga (by omega)⟩;obtain⟨a1,a2,_⟩:=hK.get k c hc;obtain⟨s,hs⟩:∃ s,cl[c]?=some s:=⟨_,zga (by omega)⟩;obtain⟨hs0,_,_⟩:=hgood s (zgc hs);obtain⟨p,hp⟩:=List.exists_mem_of_ne_nil _ hs0;exact List.length_pos_of_mem (CA.2 ⟨c,s,hs,a2,hp⟩)
       rw[hSP,hCL,sub_self,List.replicate_zero,List.append_nil];obtain⟨RES,hRES⟩:∃ RES,(if(CL.any fun s=>decide (64<s.length))=true then AV.tup [.agg [.sl false [],.sl false [],.sl false []],I 4] else .tup [autoN CL rows acs,I 0])=RES:=⟨_,rfl⟩;have hbad:∀(k:Nat) (s:List (Int×Int)),CL[k]?=some s->64<s.length->RES=.tup [.agg [.sl false [],.sl false [],.sl false []],I 4]:=fun k s h1 h2=>by
        rw[<- hRES,if_pos];exact List.any_eq_true.2 ⟨s,zgc h1,by simp[h2]⟩
       have hok:(∀(k:Nat) (s:List (Int×Int)),k<width->CL[k]?=some s->s.length<=64)->RES=.tup [autoN CL rows acs,I 0]:=fun h=>by
        rw[<- hRES,if_neg];intro h2;obtain⟨s,h3,h4⟩:=List.any_eq_true.1 h2;obtain⟨k,hk,e⟩:=List.getElem_of_mem h3;have:=h k s (by omega) (by rw[zga hk,e]);simp at h4;omega
       rw[hRES];clear hRES;have hCel:∀ k,k<width->(cellsL 2 11 (SP.map List.length))[k]?=some (.ms (11+k) 2 (spansK cl kinds k).length 0 (spansK cl kinds k).length):=fun k hk=>Bg 2 11 _ k _ (by rw[getElem?_map,hSPg k hk];rfl);have hCelL:(cellsL 2 11 (SP.map List.length)).length=width:=by rw[Ax];simp[hSPl]
       generalize cellsL 2 11 (SP.map List.length)=C at *;have hZl:(rowsZ SP).length=width:=by simp[rowsZ,hSPl]
       have hRl2:(rowsC SP).length=width:=by simp[rowsC,hSPl]
       have hZg:∀ k,k<width->(rowsZ SP)[k]?=some (.row 2 ((spansK cl kinds k).map spanAV) (spansK cl kinds k).length):=fun k hk=>by simp[rowsZ,hSPg k hk]
       have hRg:∀ k,k<width->((rowsZ SP).take k++(rowsC SP).drop k)[k]?=some (.row 2 ((spansK cl kinds k).map spanAV) 0):=fun k hk=>by
        rw[getElem?_append_right (by rw[List.length_take];omega),List.length_take,Nat.min_eq_left (by omega),sub_self,List.getElem?_drop,Nat.add_zero];simp[rowsC,hSPg k hk]
       have hfill:∀ k,k<width->((rowsZ SP).take k++(rowsC SP).drop k).set k (.row 2 ((spansK cl kinds k).map spanAV) (spansK cl kinds k).length)=(rowsZ SP).take (k+1)++(rowsC SP).drop (k+1):=fun k hk=>Bn hZl hRl2 (hZg k hk);simp +contextual (disch:=omega) only[Tryz.f60,dd60,go_sem,simprocAttr,evAppend,map_append,mu60];refine AS (M:=(Ms 60 50)) rfl width (fun k=>(⟨223,[(203,I k),(202,I width),(201,.ms 10 1 width 0 width),(22,.rf 6 1 0 0),(2,.rf 1 1 0 0)],.row 3 [autoN cl nx ac] 0::.row 3 [E3] 0::.row 1 RM m::.row 1 RS1 Sx.length::.row 1 CHM F.length::.row 1 (ren.map NV) n::.row 3 [.agg [.ms 7 1 k 0 k,.ms 8 1 F.length 0 F.length,.ms 9 1 F.length 0 F.length]] 0::.row 1 ((CL.take k).map setAV9) 0::.row 1 (rows.map nsAV) 0::.row 1 (acs.map AV.bool) 0::.row 1 C 0::((rowsZ SP).take k++(rowsC SP).drop k)⟩:St)) (fun k=>∀(i:Nat) (s:List (Int×Int)),i<k->CL[i]?=some s->s.length<=64) ?_ ?_ (fun i s h=>by omega) _ ?_
       ·intro k hk hinv;have hCk:=hCel k hk;have hRk:=hRg k hk;have hfk:=hfill k hk;have hCLk:=hCLg k hk;have h115:=f115 (spansK cl kinds k) (hSKg k) (hSK0 k hk) (by have:=hszm k;omega);rw[<- hfk,AZ hCLk];have hbadk:=hbad k _ hCLk;have hnb2:(CL.take k).length=k:=by rw[List.length_take];omega
        have hpn:=AH (spansK cl kinds k);have hextend:(normL (spansK cl kinds k)).length<=64->∀(i:Nat) (s:List (Int×Int)),i<k+1->CL[i]?=some s->s.length<=64:=fun h i s hi2 hs=>by
         rcases Nat.lt_or_ge i k with h1|h1
         ·exact hinv i s h1 hs
         ·obtain rfl:i=k:=by omega
          rw[hCLk]at hs;cases hs;exact h
        generalize (rowsZ SP).take k++(rowsC SP).drop k=T at *;generalize normL (spansK cl kinds k)=O at *;generalize spansK cl kinds k=l at *;generalize CL.take k=CT at *;have hz:∀ x0 x1 x2 x3 x4 x5 x6 x7 x8 x9 x10:MB,fz (.ms (11+k) 2 l.length 0 l.length) (x0::x1::x2::x3::x4::x5::x6::x7::x8::x9::x10::T)=some (.sl false (l.map spanAV),x0::x1::x2::x3::x4::x5::x6::x7::x8::x9::x10::T.set k (.row 2 (l.map spanAV) l.length)):=fun x0 x1 x2 x3 x4 x5 x6 x7 x8 x9 x10=>by
         have hgr:getRow (x0::x1::x2::x3::x4::x5::x6::x7::x8::x9::x10::T) (11+k)=some (2,l.map spanAV,0):=by unfold getRow;rw[Sk,hRk]
         rw[Av hgr (by simp) hpn];unfold mark;rw[hgr];simp only[Se,Nat.zero_max]
        have c115:=fun x0 x1 x2 x3 x4 x5 x6 x7 x8 x9 x10:MB=>A5 (P:=Pg) (pol:=pol1) (f:=115) (args:=[.ms (11+k) 2 l.length 0 l.length]) (l:=[.sl false (l.map spanAV)]) (H:=x0::x1::x2::x3::x4::x5::x6::x7::x8::x9::x10::T) (H1:=x0::x1::x2::x3::x4::x5::x6::x7::x8::x9::x10::T.set k (.row 2 (l.map spanAV) l.length)) rfl (by simp only[frzArgs,show pol1.byref 115 0=false from rfl,Bool.false_eq_true,if_false,hz]) (by simp[AV.plainL,AV.plain,hpn]);simp only[h115]at c115;have hCTm:(CT.map setAV9).length=k:=by rw[length_map];exact hnb2
        by_cases hO:64<O.length
        ·rw[if_pos hO]at c115;rw[hbadk hO];simp +contextual (disch:=omega) only[Tryz.f60,dd60,go_sem,simprocAttr,evAppend,map_append,mu60,hCk,hCelL,c115];exact⟨_,rfl⟩
        ·rw[if_neg hO]at c115;have a1:=fun(x0 x1 x2 x3 x4 x5 x6 x8 x9 x10:MB) (T:List MB) (t:Bool)=>LK (H:=x0::x1::x2::x3::x4::x5::x6::.row 1 (CT.map setAV9) 0::x8::x9::x10::T) (i:=7) (n:=k) (x:=setAV9 O) (t:=t) rfl (zero_le _) hCTm (by omega) rfl rfl;simp only[set_cons_succ,List.set_cons_zero]at a1;simp +contextual (disch:=omega) only[Tryz.f60,dd60,go_sem,simprocAttr,mu60,hCk,hCelL,c115,a1];exact⟨hextend (by omega),by rw[map_append];rfl⟩
       ·intro hinv;rw[hok (fun k s h1 h2=>hinv k s h1 h2)];rw[show CL.take width=CL from take_of_length_le (by omega)];simp +contextual (disch:=omega) only[Tryz.f60,dd60,go_sem,simprocAttr,evAppend,map_append,mu60];exact⟨_,Ew (CR (Av (z:=0) rfl (by simp[hCLl]) (AP CL)) (Av (z:=0) rfl (by simp[hrowl]) (AU rows)) (Av (z:=0) rfl (by simp[hacl]) (AN acs))) (AY _ rfl)⟩
       ·rw[List.take_zero,List.take_zero,List.drop_zero];rfl
      ·rw[hwd0];rfl
     ·rw[List.take_zero,List.take_zero];exact(by first|rfl|(refine AO rfl (by rfl) (by rfl) (by rfl) ?_ ?_<;>simp[AV.underL,AV.under,MB.under,AG,AJ,AF,AH,AK,AM,-map_take,AP,AU,AR,AN,hRMp,hRSp,hCHp]))
    ·rw[show putAll (List.replicate n 0) (Sx.take 0) (nums.take 0)=List.replicate n 0 by simp[putAll],map_replicate];rfl
  ·rw[show oS.take 0++List.replicate (Sx.length-0) 0=List.replicate Sx.length 0 from rfl,map_replicate];rfl
 ·rw[show (List.range m).take 0++List.replicate (m-0) 0=List.replicate m 0 from rfl,map_replicate];rfl
end
end Go.Ev
