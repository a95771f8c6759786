/- What the program's least makes of an automaton, in lists; it is the automaton of its blocks and kinds: plain. -/
import Derived.Test.YtdklnlnbemogbaaGreatK16
import Derived.Shelf.SlSortCmp.NoneTotal
set_option linter.unusedVariables false
set_option linter.unusedSimpArgs false
open List (any_eq_true append_assoc cons_append getElem?_map head?_drop length_append length_cons length_map map_append map_cons map_set map_take mem_cons mem_map mem_range pairwise_cons sum_cons take_add_one take_length take_of_length_le)
open Option (bind_some getD_some)
open Nat (lt_or_ge mul_one zero_add zero_le)
open Go.Proofs Go.RowKit Go.IntWalk
set_option maxHeartbeats 4000000
set_option maxRecDepth 100000
namespace Go.Ev
def colsA (nx:List (List Nat)) (m:Nat) (states num:List Nat):List (List Nat):=(List.range m).map fun c=>states.map fun s=>num[nxf nx s c]?.getD 0
def reachA (nx:List (List Nat)) (cs:List Nat):List Nat:=bfs (fun s=>cs.map (nxf nx s)) (nx.length+1) 0 [0]
def cs0 (nx:List (List Nat)) (m:Nat):List Nat:=firstsA (numA (colsA nx m (List.range nx.length) (List.range nx.length)))
def states0 (nx:List (List Nat)) (m:Nat):List Nat:=reachA nx (cs0 nx m)
def block0 (nx:List (List Nat)) (ac:List Bool) (m:Nat):List Nat:=(List.range nx.length).map fun s=>if s∈states0 nx m/\ac[s]?.getD false=true then 1 else 0
def blockA (nx:List (List Nat)) (ac:List Bool) (m:Nat):List Nat:=blocksGo nx (cs0 nx m) (states0 nx m) (nx.length+2) 0 (block0 nx ac m)
def statesA (nx:List (List Nat)) (m:Nat):List Nat:=reachA nx (List.range m)
def numsA (nx:List (List Nat)) (ac:List Bool) (m:Nat):List Nat:=numA ((statesA nx m).map fun s=>(blockA nx ac m)[s]?.getD 0)
def chosenA (nx:List (List Nat)) (ac:List Bool) (m:Nat):List Nat:=(firstsA (numsA nx ac m)).map fun i=>(statesA nx m)[i]?.getD 0
def renA (nx:List (List Nat)) (ac:List Bool) (m:Nat):List Nat:=putAll (List.replicate nx.length 0) (statesA nx m) (numsA nx ac m)
def kindsA (nx:List (List Nat)) (ac:List Bool) (m:Nat):List Nat:=numA (colsA nx m (chosenA nx ac m) (renA nx ac m))
def keptA (nx:List (List Nat)) (ac:List Bool) (m:Nat):List Nat:=firstsA (kindsA nx ac m)
def daOf (nx:List (List Nat)) (ac:List Bool) (m:Nat) (cl:Int->Nat):DA:=⟨nx.length,m,nxf nx,fun s=>ac[s]?.getD false,cl⟩
section
variable {nx:List (List Nat)}{ac:List Bool}{m:Nat}{cl:Int->Nat}{top:Int}
theorem Bv {cs:List Nat} (h0:0<nx.length) (h:∀ s,s<nx.length->∀ c∈cs,nxf nx s c<nx.length) :
  BInv (fun s=>cs.map (nxf nx s)) (reachA nx cs) (reachA nx cs).length 0/\(reachA nx cs)[0]?=some 0/\∀ s∈reachA nx cs,s<nx.length:=by
 have hall:∀ s∈reachA nx cs,s<nx.length:=LI _ (fun s=>s<nx.length) (fun s hs y hy=>by
  obtain⟨c,hc,rfl⟩:=mem_map.1 hy;exact h s hs c hc) _ _ _ (fun x hx=>by simp at hx;omega)
 have hnd:(reachA nx cs).Nodup:=Gp _ _ _ _ (by simp);have hlen:=Ay (reachA nx cs) (List.range nx.length) hnd (fun x hx=>mem_range.2 (hall x hx));simp only[List.length_range]at hlen;obtain⟨h1,m',h2⟩:=LH (fun s=>cs.map (nxf nx s)) (nx.length+1) 0 [0] (BInv.start _ _) (by simp) (by
  show (reachA nx cs).length<0+(nx.length+1);omega)
 refine⟨h1,?_,hall⟩;unfold reachA;rw[h2];rfl
theorem Ke {cs:List Nat}{L:List Nat} (hi:BInv (fun s=>cs.map (nxf nx s)) L L.length 0) {s:Nat} (hs:s∈L) {c:Nat} (hc:c∈cs):nxf nx s c∈L:=by
 obtain⟨i,h1,e⟩:=List.getElem_of_mem hs;obtain⟨j,h2,e2⟩:=List.getElem_of_mem hc;obtain⟨v,hv,_⟩:=hi.grow i j (.inl h1) s (nxf nx s c) (by rw[zga h1,e]) (by rw[getElem?_map,zga h2,e2];rfl);exact zgc hv
theorem BX (nx:List (List Nat)) (m:Nat) (states num:List Nat):(colsA nx m states num).length=m:=by simp[colsA]
theorem C3 {c:Nat} (hc:c<m) (states num:List Nat):(colsA nx m states num)[c]?=some (states.map fun s=>num[nxf nx s c]?.getD 0):=by simp[colsA,hc]
theorem L8 {states num:List Nat}{c d:Nat} (hc:c<m) (hd:d<m) :
  (numA (colsA nx m states num))[c]?.getD 0=(numA (colsA nx m states num))[d]?.getD 0↔∀ s∈states,num[nxf nx s c]?.getD 0=num[nxf nx s d]?.getD 0:=by
 rw[Al _ (C3 hc _ _),Al _ (C3 hd _ _)];exact(DB (C3 hc _ _) (C3 hd _ _)).trans List.map_inj_left
theorem ES {states num:List Nat}{k c:Nat} (h:(firstsA (numA (colsA nx m states num)))[k]?=some c) :
  c<m/\(numA (colsA nx m states num))[c]?.getD 0=k/\∀ d,d<c->(numA (colsA nx m states num))[d]?.getD 0<k:=by
 have hf:=CE (colsA nx m states num);rw[BX]at hf;obtain⟨h1,h2,h3⟩:=hf.get k c h;refine⟨h1,by rw[h2];rfl,fun d hd=>?_⟩;have e:=Al _ (C3 (nx:=nx) (show d<m by omega) states num);rw[e];exact h3 d _ hd e
theorem J2 {states num:List Nat}{c:Nat} (h:c<m):(numA (colsA nx m states num))[c]?.getD 0<(firstsA (numA (colsA nx m states num))).length:=by
 have hf:=CE (colsA nx m states num);rw[BX]at hf;have e:=Al _ (C3 (nx:=nx) h states num);rw[e];exact hf.all c _ h e
theorem Nt {c:Nat} (h:c∈cs0 nx m):c<m:=by
 obtain⟨k,hk,e⟩:=List.getElem_of_mem h;exact(ES (k:=k) (by rw[<- e];exact zga hk)).1
theorem SM (hok:∀ s c,s<nx.length->c<m->nxf nx s c<nx.length) {c:Nat} (hc:c<m):∃ c0∈cs0 nx m,∀ s,s<nx.length->nxf nx s c=nxf nx s c0:=by
 have h1:=J2 (nx:=nx) (states:=List.range nx.length) (num:=List.range nx.length) hc;have e:=zga h1;obtain⟨a1,a2,a3⟩:=ES e;refine⟨_,List.getElem_mem h1,fun s hs=>?_⟩;have:=(L8 a1 hc).1 a2 s (mem_range.2 hs)
 simpa [hok s _ hs a1,hok s c hs hc] using this.symm
theorem GE (h:(daOf nx ac m cl).Ok top):BlockIn (daOf nx ac m cl) top nx (cs0 nx m) (states0 nx m):=by
 obtain⟨h1,h2,h3⟩:=Bv (nx:=nx) (cs:=cs0 nx m) h.pos (fun s hs c hc=>h.lt s c hs (Nt hc));exact⟨h,fun _ _=>rfl,fun c hc=>Nt hc,fun c hc=>SM (fun s c hs hc=>h.lt s c hs hc) hc,h1.nodup,h3,fun s hs c hc=>Ke h1 hs hc⟩
theorem I8 (h:(daOf nx ac m cl).Ok top):BlockInv (daOf nx ac m cl) top (states0 nx m) 0 (block0 nx ac m):=by
 have hb:=GE h;have key:∀ s,s∈states0 nx m->(block0 nx ac m)[s]?.getD 0=if ac[s]?.getD false=true then 1 else 0:=fun s hs=>by
  have:=hb.lt s hs;have:s<nx.length:=this;simp[block0,this,hs]
 refine⟨by simp[block0];rfl,fun s t hs ht he=>?_,fun s t hs ht he=>?_,.inl rfl⟩
 ·have:=he [] DQ;have:ac[s]?.getD false=ac[t]?.getD false:=this;rw[key s hs,key t ht,this]
 ·rw[key s hs,key t ht]at he;show ac[s]?.getD false=ac[t]?.getD false;cases h1:ac[s]?.getD false<;>cases h2:ac[t]?.getD false<;>simp[h1,h2]at he |-
theorem Ha (h:(daOf nx ac m cl).Ok top):0∈states0 nx m:=by
 obtain⟨_,h2,_⟩:=Bv (nx:=nx) (cs:=cs0 nx m) h.pos (fun s hs c hc=>h.lt s c hs (Nt hc));exact zgc h2
theorem Hk (h:(daOf nx ac m cl).Ok top):∀ s∈statesA nx m,s∈states0 nx m:=by
 obtain⟨h1,h2,h3⟩:=Bv (nx:=nx) (cs:=List.range m) h.pos (fun s hs c hc=>h.lt s c hs (mem_range.1 hc));have hb:=GE h;have key:∀(N u:Nat),u<N->∀(s:Nat),(statesA nx m)[u]?=some s->s∈states0 nx m:=by
  intro N
  induction N with
  | zero=>intro u hu;omega
  | succ N ih=>
    intro u hu s hs;rcases Nat.eq_zero_or_pos u with e|e
    ·subst e;have:(statesA nx m)[0]?=some 0:=h2;rw[this]at hs;cases hs;exact Ha h
    ·obtain⟨i',c',_,b2,y,z,m1,m2,m3⟩:=h1.met u e (getElem?_ne_none hs);have m3':(statesA nx m)[u]?=some z:=m3;rw[hs]at m3';cases m3';have hy:=ih i' (by omega) y m1;have hc':c'<m:=by have:=getElem?_ne_none m2;simpa using this
     have e2:nxf nx y c' = s:=by simpa [hc'] using m2
     obtain⟨c0,g1,g2⟩:=hb.rep c' hc';have g3:=g2 y (hb.lt y hy);have g4:nxf nx y c' = nxf nx y c0:=g3;rw[<- e2,g4];exact hb.closed y hy c0 g1
 intro s hs;obtain⟨i,hi,e⟩:=List.getElem_of_mem hs;exact key _ i (Nat.lt_succ_self _) s (by rw[zga hi,e])
theorem P3 (h:(daOf nx ac m cl).Ok top) {s t:Nat} (hs:s∈statesA nx m) (ht:t∈statesA nx m):(blockA nx ac m)[s]?.getD 0=(blockA nx ac m)[t]?.getD 0↔(daOf nx ac m cl).Eqv top s t:=
 (GE h).blocks (List.ne_nil_of_mem (Ha h)) (nx.length+2) 0 _ (I8 h) (Nat.le_refl _) s t (Hk h s hs) (Hk h t ht)
theorem Pb (h:(daOf nx ac m cl).Ok top) (ho:(daOf nx ac m cl).Ord top) :
  Quo (daOf nx ac m cl) top (statesA nx m) (chosenA nx ac m) (keptA nx ac m) (fun s=>(renA nx ac m)[s]?.getD 0) (fun c=>(kindsA nx ac m)[c]?.getD 0):=by
 obtain⟨h1,h2,h3⟩:=Bv (nx:=nx) (cs:=List.range m) h.pos (fun s hs c hc=>h.lt s c hs (mem_range.1 hc));have hbl:∀(i s:Nat),(statesA nx m)[i]?=some s->((statesA nx m).map fun s=>(blockA nx ac m)[s]?.getD 0)[i]?=some ((blockA nx ac m)[s]?.getD 0):=fun i s hs=>by rw[getElem?_map,hs];rfl
 have hren:∀(i s:Nat),(statesA nx m)[i]?=some s->∃ k:Nat,(numsA nx ac m)[i]?=some k/\(renA nx ac m)[s]?.getD 0=k:=fun i s hs=>by
  have e:=Al _ (hbl i s hs);refine⟨_,e,?_⟩;unfold renA;rw[FT (statesA nx m) (numsA nx ac m) _ h1.nodup (fun s hs=>by rw[List.length_replicate];exact h3 s hs) i s _ hs e];rfl
 have hlen:(numsA nx ac m).length=(statesA nx m).length:=by simp[numsA,Af]
 have hf:=CE ((statesA nx m).map fun s=>(blockA nx ac m)[s]?.getD 0);rw[length_map]at hf;refine⟨h,ho,h1,h2,fun s t hs ht=>?_,fun j s hs u hu=>?_,fun k s hk=>?_,fun s hs=>?_,fun c d hc hd=>L8 hc hd,fun k c hk=>ES hk,fun c hc=>J2 hc⟩
 ·obtain⟨i,hi,e1⟩:=List.getElem_of_mem hs;obtain⟨j,hj,e2⟩:=List.getElem_of_mem ht;have g1:(statesA nx m)[i]?=some s:=by rw[zga hi,e1]
  have g2:(statesA nx m)[j]?=some t:=by rw[zga hj,e2]
  obtain⟨k,a1,a2⟩:=hren i s g1;obtain⟨l,b1,b2⟩:=hren j t g2;rw[a2,b2];have c1:(numsA nx ac m)[i]?=_:=Al _ (hbl i s g1);have c2:(numsA nx ac m)[j]?=_:=Al _ (hbl j t g2);rw[a1]at c1;rw[b1]at c2;rw[Option.some.inj c1,Option.some.inj c2];exact(DB (hbl i s g1) (hbl j t g2)).trans (P3 h hs ht)
 ·obtain⟨k,a1,a2⟩:=hren j s hs;rw[a2]at hu;obtain⟨i,b1,b2⟩:=Ep a1 u hu;have hi:i<(statesA nx m).length:=by
   have:=getElem?_ne_none b2;rw[<- hlen];exact this
  obtain⟨k',d1,d2⟩:=hren i _ (zga hi);refine⟨i,_,b1,zga hi,?_⟩;rw[d2];have b2':(numsA nx ac m)[i]?=some u:=b2;rw[d1]at b2';exact Option.some.inj b2'
 ·unfold chosenA at hk;rw[getElem?_map,Option.map_eq_some_iff]at hk;obtain⟨i,e1,e2⟩:=hk;obtain⟨g1,g2,g3⟩:=hf.get k i e1;rw[zga g1,getD_some]at e2;have e3:(statesA nx m)[i]?=some s:=by rw[zga g1,e2]
  obtain⟨k',d1,d2⟩:=hren i s e3;refine⟨i,e3,?_,fun i' t hi' ht=>?_⟩
  ·rw[d2];have g2':(numsA nx ac m)[i]?=some k:=g2;rw[d1]at g2';exact Option.some.inj g2'
  ·obtain⟨k2,f1,f2⟩:=hren i' t ht;have:=g3 i' k2 hi' f1;rw[f2];omega
 ·obtain⟨i,hi,e1⟩:=List.getElem_of_mem hs;obtain⟨k,a1,a2⟩:=hren i s (by rw[zga hi,e1]);rw[a2];unfold chosenA;rw[length_map];exact hf.all i k hi a1
end
end Go.Ev
namespace Go.Ev
attribute [local go_sem] evBin AV.cells An As bndO bnd evEq eqCells not_false_eq_true not_true_eq_false toList_some Array.size_empty tySzE head?_drop mul_one Ac Aj Aa Ad Ae AW
section
attribute [local go_sem] length_append
abbrev nsAV (l:List Nat):AV:=.sl false (l.map NV)
theorem AR (l:List Nat):AV.plainL (l.map NV)=true:=by
 induction l with
 | nil=>rfl
 | cons a l ih=>simp[AV.plainL,AV.plain,ih]
theorem AU (l:List (List Nat)):AV.plainL (l.map nsAV)=true:=by
 induction l with
 | nil=>rfl
 | cons a l ih=>simp[AV.plainL,AV.plain,AR,ih]
theorem AZ {α:Type}{s:List α}{k:Nat}{p:α} (h:s[k]?=some p):s.take (k+1)=s.take k++[p]:=by
 rw[take_add_one,h];rfl
theorem Bd {α:Type}{A:List α}{z x:α}{i n:Nat} (hn:A.length=n) (h:A[i]?=some x):(A.take i++List.replicate (n-i) z).set i x=A.take (i+1)++List.replicate (n-(i+1)) z:=by
 have hi:=(zgb.1 h).1;have hl:(A.take i).length=i:=by rw[List.length_take];omega
 rw[List.set_append_right _ _ (by omega),hl,Nat.sub_self,AZ h,show n-i=(n-(i+1))+1 by omega,List.replicate_succ,List.set_cons_zero,append_assoc];rfl
theorem Be {α:Type}{A:List α}{z:α}{i n:Nat} (hn:A.length=n) (hi:i<=n):(A.take i++List.replicate (n-i) z).length=n:=by
 simp;omega
theorem B5 {α:Type}{A:List α}{z:α}{n:Nat} (hn:A.length=n):A.take n++List.replicate (n-n) z=A:=by
 rw[Nat.sub_self,List.replicate_zero,List.append_nil];exact take_of_length_le (by omega)
theorem TS {H:List MB}{i n:Nat}{rs:List Int}{x y:Int}{t:Bool} (hi:getRow H i=some (1,rs.map kB8,0)) (hn:rs.length=n) (hr:n+2<=4000000000) :
  evAppend Pg H 180 180 (.ms i 1 n 0 n) (.sl t [kB8 x,kB8 y])=some (.ms i 1 (n+2) 0 (n+2),H.set i (.row 1 ((rs++[x,y]).map kB8) 0)):=by
 have hs:srcElems Pg H 5 (.sl t [kB8 x,kB8 y])=some [kB8 x,kB8 y]:=rfl;rw[Ag (e:=5) (by kernel_rfl) (by kernel_rfl) (k:=1) (by kernel_rfl) (by_:=1) (by kernel_rfl) (ze:=kB8 0) (by kernel_rfl) rfl (by omega) hs (by simp[AV.cells,AV.ok]) hi (by rw[length_map];exact hn) (zero_le _) (AW (by simp;omega) (by omega))];rw[map_append];rfl
theorem f56 (l:List Nat) (hl:l.length<=1000000) (hb:∀ n∈l,n<=1000000) (H:List MB):call Pg pol1 56 [nsAV l] H=some (.str (keyS l),H):=by
 have hpl:=AR l;refine AQ Tryz.func56 rfl rfl rfl rfl rfl rfl (fun _=>rfl) (by simp[AV.plain,AV.plainL,hpl]) (by simp[AV.plain]) ?_ H;have hw:IntKind.i64.wrap (2*(l.length:Int))=2*(l.length:Int):=by rw[i64_in];omega
 have hroom:roomFor (2*(l.length:Int)).toNat 1=true:=AW (by omega) (by omega);simp +contextual (disch:=omega) only[Tryz.f56,dd56,go_sem,simprocAttr,evAppend,strOf,map_append,mu56,hw,hroom];refine AS (M:=(Ms 56 3)) rfl l.length (fun i=>(⟨27,[(12,I i),(11,I l.length),(10,nsAV l),(3,.ms 0 1 (2*i) 0 (2*i))],[.row 1 ((keyI (l.take i)).map kB8) 0]⟩:St)) (fun i=>True) ?_ ?_ trivial _ ?_
 ·intro i hi _;obtain⟨n,hn⟩:∃ n,l[i]?=some n:=⟨_,zga hi⟩;have hn':(l.map NV)[i]?=some (NV n):=by simp[hn]
  have hnb:=hb n (zgc hn);have hkl:(keyI (l.take i)).length=2*i:=by rw[MA,List.length_take];omega
  have h8:=shr8 n;have w1:=Sb (n / 256);have w2:=Sb n;rw[AZ hn,Pd];generalize keyI (l.take i)=K at *;generalize n / 256 % 256=u at *;generalize n % 256=v at *;generalize n / 256=n2 at *;have a1:=fun(t:Bool)=>TS (H:=[.row 1 (K.map kB8) 0]) (i:=0) (n:=2*i) (x:=u) (y:=v) (t:=t) rfl hkl (by omega);simp only[List.set_cons_zero]at a1;simp +contextual (disch:=omega) only[Tryz.f56,dd56,go_sem,simprocAttr,strOf,mu56,hn',h8,w1,w2,a1];generalize K++[(u:Int),(v:Int)]=K2;rw[show 2*(i+1)=2*i+2 by omega];exact(by first|rfl|(refine AO rfl (by rfl) (by rfl) (by rfl) ?_ ?_<;>simp[AV.underL,AV.under,MB.under,AG,AJ,AF,AH,AK,AM,-map_take,AR,EP]))
 ·intro _;have hkl:(keyI l).length=2*l.length:=MA l;have hks:keyS l=strB (keyI l):=rfl;rw[take_length,hks];generalize keyI l=K at *;have hst:strOf [.row 1 (K.map kB8) 0] (.ms 0 1 (2*l.length) 0 (2*l.length))=some (strB K):=by
   have h1:(K.map kB8).length=2*l.length:=by rw[length_map];exact hkl
   simp only[strOf,elemsOf,getRow,List.getElem?_cons_zero,h1,and_self,if_true,List.drop_zero];rw[take_of_length_le (by omega),I7];rfl
  simp +contextual (disch:=omega) only[Tryz.f56,dd56,go_sem,simprocAttr,evAppend,map_append,mu56,hst];exact fzEq rfl rfl
 ·exact(by first|rfl|(refine AO rfl (by rfl) (by rfl) (by rfl) ?_ ?_<;>simp[AV.underL,AV.under,MB.under,AG,AJ,AF,AH,AK,AM,-map_take,AR,EP]))
theorem FF:∀(A F:List Nat) (i n:Nat),firstsGo (A++[n]) i F=if n=(firstsGo A i F).length then firstsGo A i F++[i+A.length] else firstsGo A i F
 | [],F,i,n=>rfl
 | a::A,F,i,n=>by
   rw[cons_append,firstsGo,FF A _ (i+1) n,firstsGo,length_cons,show i+1+A.length=i+(A.length+1) by omega]
theorem EZ:∀(A F:List Nat) (i:Nat),(firstsGo A i F).length<=F.length+A.length
 | [],F,i=>by simp[firstsGo]
 | a::A,F,i=>by
   rw[firstsGo];have:=EZ A (if a=F.length then F++[i] else F) (i+1);split at this
   ·rename_i h;rw[if_pos h];simp only[length_append,length_cons,List.length_nil]at this |-;omega
   ·rename_i h;rw[if_neg h];simp only[length_cons];omega
theorem f113 (l:List Nat) (many:Nat) (hl:l.length<=1000000) (hb:∀ n∈l,n<=1000000) (hm:many<=1000000) (H:List MB):call Pg pol1 113 [nsAV l,NV many] H=some (nsAV (firstsA l),H):=by
 have hpl:=AR l;refine AQ Tryz.func113 rfl rfl rfl rfl rfl rfl (fun _=>rfl) (by simp[AV.plain,AV.plainL,hpl]) (by simp[AV.plain,AR]) ?_ H;have hroom:roomFor (many:Int).toNat 8=true:=AW (by omega) (by omega);simp +contextual (disch:=omega) only[Tryz.f113,Oq,go_sem,simprocAttr,evAppend,strOf,map_append,OT,hroom];refine AS (M:=(Ms 113 3)) rfl l.length (fun i=>(⟨27,[(12,I i),(11,I l.length),(10,nsAV l),(5,.ms 0 1 (firstsA (l.take i)).length 0 (firstsA (l.take i)).length)],[.row 1 ((firstsA (l.take i)).map NV) 0]⟩:St)) (fun i=>True) ?_ ?_ trivial _ ?_
 ·intro i hi _;obtain⟨n,hn⟩:∃ n,l[i]?=some n:=⟨_,zga hi⟩;have hn':(l.map NV)[i]?=some (NV n):=by simp[hn]
  have hst:firstsA (l.take (i+1))=if n=(firstsA (l.take i)).length then firstsA (l.take i)++[i] else firstsA (l.take i):=by
   have:=FF (l.take i) [] 0 n;rw[<- AZ hn,List.length_take,zero_add,Nat.min_eq_left (by omega)]at this;exact this
  have hfl:(firstsA (l.take i)).length<=1000000:=by
   have:=EZ (l.take i) [] 0;simp only[List.length_nil,List.length_take]at this;unfold firstsA;omega
  rw[hst];generalize firstsA (l.take i)=F at *;by_cases e:n=F.length
  ·rw[if_pos e];subst e;have a1:=fun(t:Bool)=>O1 (H:=[.row 1 (F.map NV) 0]) (i:=0) (n:=F.length) (c:=i) (t:=t) rfl rfl (by omega);simp only[List.set_cons_zero]at a1;have hlen:(F++[i]).length=F.length+1:=by simp
   rw[hlen];simp +contextual (disch:=omega) only[Tryz.f113,Oq,go_sem,simprocAttr,strOf,OT,hn',a1];generalize F++[i]=F2;exact(by first|rfl|(refine AO rfl (by rfl) (by rfl) (by rfl) ?_ ?_<;>simp[AV.underL,AV.under,MB.under,AG,AJ,AF,AH,AK,AM,-map_take,AR]))
  ·rw[if_neg e];have e2:¬ (n:Int)=(F.length:Int):=by omega
   simp +contextual (disch:=omega) only[Tryz.f113,Oq,go_sem,simprocAttr,strOf,OT,hn',e2];exact(by first|rfl|(refine AO rfl (by rfl) (by rfl) (by rfl) ?_ ?_<;>simp[AV.underL,AV.under,MB.under,AG,AJ,AF,AH,AK,AM,-map_take,AR]))
 ·intro _;rw[take_length];simp +contextual (disch:=omega) only[Tryz.f113,Oq,go_sem,simprocAttr,evAppend,strOf,map_append,OT];exact⟨_,Av (z:=0) rfl (by simp) (AR _)⟩
 ·exact(by first|rfl|(refine AO rfl (by rfl) (by rfl) (by rfl) ?_ ?_<;>simp[AV.underL,AV.under,MB.under,AG,AJ,AF,AH,AK,AM,-map_take,AR]))
def entK:Nat->List AV->List (AV×AV)
 | _,[]=>[]
 | i,k::ks=>(k,NV i)::entK (i+1) ks
theorem Ec:∀(i:Nat) (ks:List AV),(entK i ks).length=ks.length
 | _,[]=>rfl
 | i,k::ks=>by rw[entK,length_cons,Ec (i+1) ks,length_cons]
theorem KE {x:AV}:∀ {ks:List AV}{i n:Nat},(∀ k∈ks,AV.beq k x=true↔k=x)->ks[n]?=some x->(∀ m,ks[m]?=some x->m=n)->findMp x (entK i ks)=some (NV (i+n))
 | [],i,n,_,h,_=>by simp at h
 | k::ks,i,n,hb,h,hu=>by
   simp only[entK,findMp];by_cases e:k=x
   ·rw[if_pos ((hb k (by simp)).2 e)];have:=hu 0 (by simp[e]);subst this;rfl
   ·rw[if_neg (fun h2=>e ((hb k (by simp)).1 h2))];cases n with
    | zero=>simp at h;exact absurd h e
    | succ n=>
      rw[KE (ks:=ks) (i:=i+1) (n:=n) (fun k hk=>hb k (by simp[hk])) (by simpa using h) (fun m hm=>by have:=hu (m+1) (by simpa using hm);omega),show i+1+n=i+(n+1) by omega]
theorem Ea {x:AV}:∀ {ks:List AV}{i:Nat},(∀ k∈ks,AV.beq k x=true↔k=x)->x ∉ ks->findMp x (entK i ks)=none
 | [],i,_,_=>rfl
 | k::ks,i,hb,h=>by
   simp only[entK,findMp];rw[if_neg (fun h2=>h (by rw[(hb k (by simp)).1 h2];simp))];exact Ea (fun k hk=>hb k (by simp[hk])) fun h2=>h (by simp[h2])
theorem LN {x:AV}:∀ {ks:List AV}{i:Nat},(∀ k∈ks,AV.beq k x=true↔k=x)->x ∉ ks->updMp x (NV (i+ks.length)) (entK i ks)=entK i (ks++[x])
 | [],i,_,_=>by simp[entK,updMp]
 | k::ks,i,hb,h=>by
   simp only[entK,updMp,cons_append];rw[if_neg (fun h2=>h (by rw[(hb k (by simp)).1 h2];simp))];have:=LN (x:=x) (ks:=ks) (i:=i+1) (fun k hk=>hb k (by simp[hk])) fun h2=>h (by simp[h2]);rw[<- this,length_cons,show i+(ks.length+1)=i+1+ks.length by omega]
section
variable {α:Type} [DecidableEq α]
structure KeyOk (key:α->AV) (P:α->Prop):Prop where
 inj:∀ x y,P x->P y->key x=key y->x=y
 beq:∀ x y,P x->P y->(AV.beq (key x) (key y)=true↔key x=key y)
theorem KeyOk.find {key:α->AV}{P:α->Prop} (h:KeyOk key P) {os:List α} (hos:∀ x∈os,P x) (hnd:os.Nodup) {x:α} (hx:P x) :
  (x∈os->findMp (key x) (entK 0 (os.map key))=some (NV (os.idxOf x)))/\(x ∉ os->findMp (key x) (entK 0 (os.map key))=none/\updMp (key x) (NV os.length) (entK 0 (os.map key))=entK 0 ((os++[x]).map key)):=by
 have hb:∀ k∈os.map key,AV.beq k (key x)=true↔k=key x:=fun k hk=>by
  obtain⟨y,hy,rfl⟩:=mem_map.1 hk;exact h.beq y x (hos y hy) hx
 constructor
 ·intro hm;have h1:=List.idxOf_lt_length_of_mem hm;have h2:os[os.idxOf x]?=some x:=by rw[zga h1];simp
  have:=KE (i:=0) (n:=os.idxOf x) hb (by rw[getElem?_map,h2];rfl) (fun m hm2=>by
   rw[getElem?_map,Option.map_eq_some_iff]at hm2;obtain⟨y,hy,e⟩:=hm2;have:=h.inj y x (hos y (zgc hy)) hx e;subst this;obtain⟨hml,e2⟩:=zgb.1 hy;rw[<- e2];exact(hnd.idxOf_getElem m hml).symm)
  rw[zero_add]at this;exact this
 ·intro hm;have hn:key x ∉ os.map key:=fun h2=>by
   obtain⟨y,hy,e⟩:=mem_map.1 h2;rw[h.inj y x (hos y hy) hx e]at hy;exact hm hy
  refine⟨Ea hb hn,?_⟩;have:=LN (i:=0) hb hn;rw[zero_add,length_map]at this;rw[this,map_append];rfl
end
theorem UJ:KeyOk NV (fun _=>True):=by
 refine⟨fun x y _ _ h=>?_,fun x y _ _=>Uw⟩;have:(x:Int)=(y:Int):=by injection h
 omega
theorem UH:KeyOk (fun l:List Nat=>AV.str (keyS l)) (fun l=>∀ n∈l,n<65536):=by
 refine⟨fun x y hx hy h=>?_,fun x y _ _=>HX⟩;have:keyS x=keyS y:=by injection h
 exact L9 hx hy this
theorem Ew {a b a' b':AV}{H H1 H2:List MB} (h1:fz a H=some (a',H1)) (h2:fz b H1=some (b',H2)):fz (.tup [a,b]) H=some (.tup [a',b'],H2):=by
 unfold fz at *;simp only[fzA,fzL,h1,h2]
theorem f112 (l:List Nat) (hl:l.length<=1000000) (hb:∀ n∈l,n<=1000000) (H:List MB):call Pg pol1 112 [nsAV l] H=some (.tup [nsAV (numA l),NV (onces l).length],H):=by
 have hpl:=AR l;refine AQ Tryz.func112 rfl rfl rfl rfl rfl rfl (fun _=>rfl) (by simp[AV.plain,AV.plainL,hpl]) (by simp[AV.plain,AV.plainL,AR]) ?_ H;have hroom:roomFor (l.length:Int).toNat 8=true:=AW (by omega) (by omega);simp +contextual (disch:=omega) only[Tryz.f112,Ot,go_sem,simprocAttr,evAppend,strOf,map_append,OU,hroom];refine AS (M:=(Ms 112 4)) rfl l.length (fun i=>(⟨42,[(16,I i),(15,I l.length),(14,nsAV l),(5,.ms 1 1 l.length 0 l.length),(4,.mpr 0)],[.mp (.int .i64) (entK 0 ((onces (l.take i)).map NV)),.row 1 (((numA l).take i++List.replicate (l.length-i) 0).map NV) 0]⟩:St)) (fun i=>True) ?_ ?_ trivial _ ?_
 ·intro i hi _;obtain⟨n,hn⟩:∃ n,l[i]?=some n:=⟨_,zga hi⟩;have hn':(l.map NV)[i]?=some (NV n):=by simp[hn]
  have hki:=UJ.find (os:=onces (l.take i)) (fun _ _=>trivial) (BP _) (x:=n) trivial;have hnum:=Al l hn;have hnx:=Eo hn;have hfs:=Bd (z:=0) (Af l) hnum;have hlen:=Be (A:=numA l) (z:=0) (Af l) (i:=i) (by omega);have hon:=Dy (l.take i) n;rw[<- AZ hn]at hon;have hol:=Bl (l.take i);rw[List.length_take]at hol;rw[<- hfs,hon,hnx];have hmem:=Ao (l.take i) n;generalize (numA l).take i++List.replicate (l.length-i) 0=A at *;obtain⟨y,hy⟩:∃ y,A[i]?=some y:=⟨_,zga (by omega)⟩;have hy':(A.map NV)[i]?=some (NV y):=by simp[hy]
  have hset:∀ k,(A.map NV).set i (NV k)=(A.set i k).map NV:=fun k=>by rw[map_set]
  generalize hO:onces (l.take i)=O at *;by_cases hm:n∈l.take i
  ·rw[if_pos hm,if_pos hm];have hf:=hki.1 (hmem.2 hm);generalize O.idxOf n=k at *;simp +contextual (disch:=omega) only[Tryz.f112,Ot,go_sem,simprocAttr,evAppend,strOf,map_append,OU,hn',hf,hlen,hy',hset];generalize A.set i k=A2;exact(by first|rfl|(refine AO rfl (by rfl) (by rfl) (by rfl) ?_ ?_<;>simp[AV.underL,AV.under,MB.under,AG,AJ,AF,AH,AK,AM,-map_take,AR]))
  ·rw[if_neg hm,if_neg hm];obtain⟨hf,hu⟩:=hki.2 (fun h=>hm (hmem.1 h));have hel:(entK 0 (O.map NV)).length=O.length:=by rw[Ec,length_map]
   simp +contextual (disch:=omega) only[Tryz.f112,Ot,go_sem,simprocAttr,evAppend,strOf,map_append,OU,hn',hf,hu,hel,hlen,hy',hset,lenMp];generalize A.set i O.length=A2;exact(by first|rfl|(refine AO rfl (by rfl) (by rfl) (by rfl) ?_ ?_<;>simp[AV.underL,AV.under,MB.under,AG,AJ,AF,AH,AK,AM,-map_take,AR]))
 ·intro _;have hel:(entK 0 ((onces (l.take l.length)).map NV)).length=(onces l).length:=by rw[Ec,length_map,take_length]
  rw[B5 (Af l)];simp +contextual (disch:=omega) only[Tryz.f112,Ot,go_sem,simprocAttr,evAppend,strOf,map_append,OU,hel,lenMp];exact⟨_,Ew (Av (z:=0) rfl (by simp[Af]) (AR _)) (AY _ rfl)⟩
 ·rw[show (numA l).take 0++List.replicate (l.length-0) 0=List.replicate l.length 0 from rfl,List.map_replicate];exact(by first|rfl|(refine AO rfl (by rfl) (by rfl) (by rfl) ?_ ?_<;>simp[AV.underL,AV.under,MB.under,AG,AJ,AF,AH,AK,AM,-map_take,AR]))
theorem PL {f:Nat}{H1 H' H2:List MB}{r r':AV} (hk:pol1.keep f=false) (ho:pol1.own f=false) (hz:fz r H' = some (r',H2)) (hp:AV.plain r' = true) (hkept:keptOk H1.length H1 H2=true) (ht:H2.take H1.length=H1):retPol pol1 f H1 r H' = some (r',H1):=by
 unfold retPol;simp only[hk,ho,Bool.false_eq_true,if_false,hz,AJ _ r' hp,hkept,and_self,if_true,ht]
abbrev sAV (l:List Nat):AV:=.str (keyS l)
theorem h2_0 (H:List MB) (x y:MB):(H++[x,y])[H.length]?=some x:=by simp
theorem h2_1 (H:List MB) (x y:MB):(H++[x,y])[H.length+1]?=some y:=by simp
theorem UM (H:List MB) (x y z:MB):(H++[x,y]).set H.length z=H++[z,y]:=by simp
theorem UL (H:List MB) (x y z:MB):(H++[x,y]).set (H.length+1) z=H++[x,z]:=by simp
theorem f165 (L:List (List Nat)) (hb:∀ l∈L,∀ n∈l,n<65536) (n:Nat) (hn:L.length=n) (hl:n<=1000000) (id z:Nat) (H:List MB) (hr:H[id]?=some (.row 1 (L.map sAV) z)) :
  call Pg pol1 165 [.ms id 1 n 0 n] H=some (.tup [nsAV (numA L),NV (onces L).length],H):=by
 have hlt:=(zgb.1 hr).1;have fr:frzArgs pol1 165 0 [.ms id 1 n 0 n] H=some ([.ms id 1 n 0 n],H):=BQ _ _ _ rfl;refine CK (pol:=pol1) Tryz.func165 rfl rfl rfl rfl fr ?_;have hroom:roomFor (n:Int).toNat 8=true:=AW (by omega) (by omega);have g0:=h2_0 H;have g1:=h2_1 H;have s0:=UM H;have s1:=UL H;have gi:∀ x y,(H++[x,y])[id]?=some (.row 1 (L.map sAV) z):=fun x y=>by rw[List.getElem?_append_left hlt];exact hr
 have hLl:(L.map sAV).length=n:=by rw[length_map];exact hn
 simp +contextual (disch:=omega) only[Tryz.f165,Ol,go_sem,simprocAttr,evAppend,strOf,map_append,OP,hroom,append_assoc];refine AS (M:=(Ms 165 4)) (by rfl) n (fun i=>(⟨42,[(16,I i),(15,I n),(14,.ms id 1 n 0 n),(5,.ms (H.length+1) 1 n 0 n),(4,.mpr H.length)],H++[.mp .str (entK 0 ((onces (L.take i)).map sAV)),.row 1 (((numA L).take i++List.replicate (n-i) 0).map NV) 0]⟩:St)) (fun i=>True) ?_ ?_ trivial _ ?_
 ·intro i hi _;obtain⟨x,hx⟩:∃ x,L[i]?=some x:=⟨_,zga (by omega)⟩;have hx':(L.map sAV)[i]?=some (sAV x):=by simp[hx]
  have hki:=UH.find (os:=onces (L.take i)) (fun y hy=>hb y (List.mem_of_mem_take ((Ao _ _).1 hy))) (BP _) (x:=x) (hb x (zgc hx));have hnum:=Al L hx;have hnx:=Eo hx;have hnA:(numA L).length=n:=by rw[Af];exact hn
  have hfs:=Bd (n:=n) (z:=0) hnA hnum;have hlen:=Be (A:=numA L) (z:=0) (n:=n) hnA (i:=i) (by omega);have hon:=Dy (L.take i) x;rw[<- AZ hx]at hon;have hol:=Bl (L.take i);rw[List.length_take]at hol;rw[<- hfs,hon,hnx];have hmem:=Ao (L.take i) x;generalize (numA L).take i++List.replicate (n-i) 0=A at *;obtain⟨y,hy⟩:∃ y,A[i]?=some y:=⟨_,zga (by omega)⟩;have hy':(A.map NV)[i]?=some (NV y):=by simp[hy]
  have hset:∀ k,(A.map NV).set i (NV k)=(A.set i k).map NV:=fun k=>by rw[map_set]
  generalize hO:onces (L.take i)=O at *;generalize hS:L.map sAV=S at *;by_cases hm:x∈L.take i
  ·rw[if_pos hm,if_pos hm];have hf:=hki.1 (hmem.2 hm);generalize O.idxOf x=k at *;simp +contextual (disch:=omega) only[Tryz.f165,Ol,go_sem,simprocAttr,evAppend,strOf,map_append,OP,hx',hf,hlen,hy',hset,g0,g1,s0,s1,gi,hLl];rfl
  ·rw[if_neg hm,if_neg hm];obtain⟨hf,hu⟩:=hki.2 (fun h=>hm (hmem.1 h));have hel:(entK 0 (O.map sAV)).length=O.length:=by rw[Ec,length_map]
   simp +contextual (disch:=omega) only[Tryz.f165,Ol,go_sem,simprocAttr,evAppend,strOf,map_append,OP,hx',hf,hu,hel,hlen,hy',hset,lenMp,g0,g1,s0,s1,gi,hLl];rfl
 ·intro _;have hel:(entK 0 ((onces (L.take n)).map sAV)).length=(onces L).length:=by rw[Ec,length_map,take_of_length_le (by omega)]
  rw[B5 (by rw[Af];exact hn)];generalize entK 0 ((onces (L.take n)).map sAV)=E at *;simp +contextual (disch:=omega) only[Tryz.f165,Ol,go_sem,simprocAttr,evAppend,strOf,map_append,OP,hel,lenMp,g0,g1,s0,s1];refine PL rfl rfl (Ew (Av (z:=0) (els:=(numA L).map NV) (by unfold getRow;rw[g1]) (by rw[length_map,Af];exact hn) (AR _)) (AY _ rfl)) (by simp[AV.plain,AV.plainL,AR]) ?_ ?_
  ·simp only[mark,getRow,g1,s1];exact Bz _ _ _
  ·simp only[mark,getRow,g1,s1];exact List.take_left' rfl
 ·rw[show (numA L).take 0++List.replicate (n-0) 0=List.replicate n 0 from rfl,List.map_replicate];rfl
end
end Go.Ev
namespace Go.Ev
open Go.Proofs Go.Shelf Go.RowKit Go.Lib Go.Sort
theorem Ud:∀ args w,(callFunc 137 args).run Tryz.prog w=.ok (.enter 137 args) w:=enters_of Tryz.func137 (by kernel_rfl) rfl
theorem Uc:∀ args w,(callFunc 138 args).run Tryz.prog w=.ok (.enter 138 args) w:=enters_of Tryz.func138 (by kernel_rfl) rfl
theorem Ub:∀ args w,(callFunc 166 args).run Tryz.prog w=.ok (.enter 166 args) w:=enters_of Tryz.func166 (by kernel_rfl) rfl
theorem Ua:∀ args w,(callFunc 167 args).run Tryz.prog w=.ok (.enter 167 args) w:=enters_of Tryz.func167 (by kernel_rfl) rfl
theorem UZ:∀ args w,(callFunc 178 args).run Tryz.prog w=.ok (.enter 178 args) w:=enters_of Tryz.func178 (by kernel_rfl) rfl
theorem UY:∀ args w,(callFunc 179 args).run Tryz.prog w=.ok (.enter 179 args) w:=enters_of Tryz.func179 (by kernel_rfl) rfl
theorem JO {args:List AV}{H H':List MB}{r:AV} (h:sort2Ext Sml 138 srtE args H=some (r,H')):CallSound Tryz.prog 137 args H r H':=by
 refine Gv Sml GK Ud (fun p cap fv w=>AnyF.slices_SortFunc_none Tryz.sortL p cap fv w) (fun blk off cap d w hH hblk hsz=>?_) h
 exact AnyQ.slices_SortFunc_eq Tryz.sortL 2 Tryz.isAgg147 Tryz.sizeOf147 Sml.enc (fun _=>rfl) (fun x v hv=>by simp[El.enc,enc2]at hv;rcases hv with rfl|rfl<;>rfl) cfE swoE 138 #[] blk off cap d w Uc
  (fun _ _ _ _ x y=>N0 x y _) hH hblk hsz
theorem JN {args:List AV}{H H':List MB}{r:AV} (h:sort2Ext Sml 167 srtE args H=some (r,H')):CallSound Tryz.prog 166 args H r H':=by
 refine Gv Sml GK Ub (fun p cap fv w=>AnyF.slices_SortFunc_none Tryz.sortM p cap fv w) (fun blk off cap d w hH hblk hsz=>?_) h
 exact AnyQ.slices_SortFunc_eq Tryz.sortM 2 Tryz.isAgg33 Tryz.sizeOf33 Sml.enc (fun _=>rfl) (fun x v hv=>by simp[El.enc,enc2]at hv;rcases hv with rfl|rfl<;>rfl) cfE swoE 167 #[] blk off cap d w Ua
  (fun _ _ _ _ x y=>Nz x y _) hH hblk hsz
theorem JM {args:List AV}{H H':List MB}{r:AV} (h:sort3iExt Plc 179 srtP args H=some (r,H')):CallSound Tryz.prog 178 args H r H':=by
 refine Ka Plc Jl UZ (fun p cap fv w=>AnyF.slices_SortFunc_none Tryz.sortP p cap fv w) (fun blk off cap d w hH hblk hsz=>?_) h
 exact AnyQ.slices_SortFunc_eq Tryz.sortP 3 Tryz.isAgg201 Tryz.sizeOf201 Plc.enc (fun _=>rfl) (fun x v hv=>by simp[El3.enc,enc3]at hv;rcases hv with rfl|rfl|rfl<;>rfl) cfP swoP 179 #[] blk off cap d w UY
  (fun _ _ _ _ x y=>Ny x y _) hH hblk hsz
end Go.Ev
namespace Go.Ev
open Go.Proofs Go.RowKit
theorem Pj {f:Nat}{g:List AV->List MB->Option (AV×List MB)} (hg:pol1.ext f=some g):(f=156/\g=cloneExt 2 16)∨(f=97/\g=ext49)∨(f=137/\g=sort2Ext Sml 138 srtE)∨(f=166/\g=sort2Ext Sml 167 srtE)∨(f=178/\g=sort3iExt Plc 179 srtP)∨(f=187/\g=cloneExt 2 16)∨(f=75/\g=cloneExt 1 1):=by
 have e:pol1.ext f=if f=156 then some (cloneExt 2 16) else if f=97 then some ext49 else if f=137 then some (sort2Ext Sml 138 srtE) else if f=166 then some (sort2Ext Sml 167 srtE) else if f=178 then some (sort3iExt Plc 179 srtP) else if f=187 then some (cloneExt 2 16) else if f=75 then some (cloneExt 1 1) else none:=rfl
 rw[e]at hg;by_cases h:f=156
 ·rw[if_pos h]at hg;exact(.inl ⟨h,(Option.some.inj hg).symm⟩)
 rw[if_neg h]at hg;clear h;by_cases h:f=97
 ·rw[if_pos h]at hg;exact(.inr (.inl ⟨h,(Option.some.inj hg).symm⟩))
 rw[if_neg h]at hg;clear h;by_cases h:f=137
 ·rw[if_pos h]at hg;exact(.inr (.inr (.inl ⟨h,(Option.some.inj hg).symm⟩)))
 rw[if_neg h]at hg;clear h;by_cases h:f=166
 ·rw[if_pos h]at hg;exact(.inr (.inr (.inr (.inl ⟨h,(Option.some.inj hg).symm⟩))))
 rw[if_neg h]at hg;clear h;by_cases h:f=178
 ·rw[if_pos h]at hg;exact(.inr (.inr (.inr (.inr (.inl ⟨h,(Option.some.inj hg).symm⟩)))))
 rw[if_neg h]at hg;clear h;by_cases h:f=187
 ·rw[if_pos h]at hg;exact(.inr (.inr (.inr (.inr (.inr (.inl ⟨h,(Option.some.inj hg).symm⟩))))))
 rw[if_neg h]at hg;clear h;by_cases h:f=75
 ·rw[if_pos h]at hg;exact(.inr (.inr (.inr (.inr (.inr (.inr ⟨h,(Option.some.inj hg).symm⟩))))))
 rw[if_neg h]at hg;clear h;cases hg
theorem ext1:ExtOk Pg pol1:=by
 intro f g hg args H r H' h;rcases Pj hg with ⟨rfl,rfl⟩|⟨rfl,rfl⟩|⟨rfl,rfl⟩|⟨rfl,rfl⟩|⟨rfl,rfl⟩|⟨rfl,rfl⟩|⟨rfl,rfl⟩
 ·exact Eg (T:=23) (B:=4) (e:=33) (k:=2) (by_:=16) (ze:=.agg [.int .i64 0,.int .i64 0])
   Tryz.func156 rfl rfl rfl rfl (by kernel_rfl) (by kernel_rfl) (by omega) (by kernel_rfl) (by kernel_rfl) rfl rfl h
 ·exact MU h
 ·exact JO h
 ·exact JN h
 ·exact JM h
 ·exact Eg (T:=91) (B:=4) (e:=211) (k:=2) (by_:=16) (ze:=.agg [.int .i64 0,.int .i64 0])
   Tryz.func187 rfl rfl rfl rfl (by kernel_rfl) (by kernel_rfl) (by omega) (by kernel_rfl) (by kernel_rfl) rfl rfl h
 ·exact Eg (T:=40) (B:=4) (e:=4) (k:=1) (by_:=1) (ze:=.bool false)
   Tryz.func75 rfl rfl rfl rfl (by kernel_rfl) (by kernel_rfl) (by omega) (by kernel_rfl) (by kernel_rfl) rfl rfl h
theorem IV:Pg.follows .mixedOrders=true:=by kernel_rfl
theorem ok1:CfOk Pg (call Pg pol1):=LF ext1 IV
end Go.Ev
namespace Go.Ev
open Go.Sort
abbrev Pl:=Int×Int×Int
def plL (xs:List Pl):List Plc.α:=xs
def sortP (xs:List Pl):List Pl:=(srtP (plL xs).toArray).toList.map Plc.val
theorem Rr (xs:List Pl):(plL xs).map Plc.val=xs:=List.map_id xs
theorem Rs (xs:List Pl):(plL xs).length=xs.length:=rfl
theorem Ba (xs:List Pl):(sortP xs).Perm xs:=by
 obtain⟨h1,_,h3⟩:=(srtP_holds (plL xs).toArray).1;have e1:(srtP (plL xs).toArray).extract 0 (plL xs).toArray.size=srtP (plL xs).toArray:=by rw[<- h1];exact Array.extract_size
 rw[e1,Array.extract_size]at h3;have:=h3.map Plc.val;rw[show ((plL xs).toArray.toList)=plL xs from rfl,Rr]at this;exact this
theorem Fl (xs:List Pl):(sortP xs).Pairwise (fun a b=>a.1<=b.1):=by
 have h2:=(srtP_holds (plL xs).toArray).2;have hs:=Jl (plL xs).toArray;unfold sortP;rw[List.pairwise_map,List.pairwise_iff_getElem];intro i j hi hj hij;have hi':i<(srtP (plL xs).toArray).size:=by simpa using hi
 have hj':j<(srtP (plL xs).toArray).size:=by simpa using hj
 have h3:=h2 i j (zero_le _) hij (by rw[<- hs];exact hj');rw[ltP,getElem!_pos _ i hi',getElem!_pos _ j hj']at h3;simp at h3
 simpa using h3
theorem Ch (xs:List Pl):(sortP xs).length=xs.length:=(Ba xs).length_eq
theorem O5:∀(xs:List Pl),Plc.unL (xs.map el3)=some (plL xs)
 | []=>rfl
 | x::xs=>by
   simp only[map_cons,El3.unL,O5 xs];rfl
theorem Le {g:Nat}{xs:List Pl}{n:Nat} (hn:xs.length=n) (hl:n<=4000000000) {H:List MB}{id:Nat} (hr:getRow H id=some (3,xs.map el3,0)) :
  ∃ H',sort3iExt Plc g srtP [.ms id 3 n 0 n,.clo g []] H=some (.tup [],H')/\H'.length=H.length/\getRow H' id=some (3,(sortP xs).map el3,0)/\∀ k,k≠id->H'[k]?=H[k]?:=by
 subst hn;have hlt:id<H.length:=by
  unfold getRow at hr;rcases lt_or_ge id H.length with h1|h1
  ·exact h1
  ·rw[List.getElem?_eq_none h1]at hr;cases hr
 by_cases h0:xs.length=0
 ·have:xs=[]:=List.length_eq_zero_iff.1 h0;subst this;refine⟨H,by simp[sort3iExt],rfl,?_,fun k _=>rfl⟩;have e:sortP []=[]:=List.length_eq_zero_iff.1 (by rw[Ch];rfl);rw[e];exact hr
 ·refine⟨H.set id (.row 3 ((sortP xs).map el3) 0),?_,by simp,?_,fun k hk=>List.getElem?_set_ne (fun e=>hk e.symm)⟩
  ·simp only[sort3iExt];rw[if_neg (by rintro⟨h,_⟩;exact h0 h)];simp only[hr,O5,Rs];rw[if_pos ⟨trivial,trivial,trivial,by omega,by omega⟩];unfold sortP;rw[List.map_map];rfl
  ·unfold getRow;rw[List.getElem?_set_self hlt]
end Go.Ev
namespace Go.Ev
attribute [local go_sem] evBin AV.cells An As bndO bnd evEq eqCells not_false_eq_true not_true_eq_false toList_some Array.size_empty tySzE head?_drop mul_one Ac Aj Aa Ad Ae AW
section
attribute [local go_sem] strOf
theorem Ux {H:List MB}{i n z:Nat}{rs:List Pl}{p:Pl}{t:Bool} (hi:getRow H i=some (3,rs.map el3,z)) (hz:z<=n) (hn:rs.length=n) (hr:n+1<=4000000000) :
  evAppend Pg H 198 198 (.ms i 3 n 0 n) (.sl t [.agg [I p.1,I p.2.1,I p.2.2]])=some (.ms i 3 (n+1) 0 (n+1),H.set i (.row 3 ((rs++[p]).map el3) z)):=by
 have hs:srcElems Pg H 201 (.sl t [.agg [I p.1,I p.2.1,I p.2.2]])=some [.agg [I p.1,I p.2.1,I p.2.2]]:=rfl;rw[Ag (e:=201) (by kernel_rfl) (by kernel_rfl) (k:=3) (by kernel_rfl) (by_:=24) (by kernel_rfl) (ze:=.agg [I 0,I 0,I 0]) (by kernel_rfl) rfl (by omega) hs (by simp[AV.cells,AV.ok]) hi (by rw[length_map];exact hn) hz (AW (by simp;omega) (by omega))];rw[map_append];rfl
theorem BO (l:List Pl):AV.plainL (l.map el3)=true:=by
 rw[Dx];intro x hx;obtain⟨y,_,rfl⟩:=mem_map.1 hx;rfl
abbrev setAV9 (s:List (Int×Int)):AV:=.sl false (s.map spanAV)
theorem AP (L:List (List (Int×Int))):AV.plainL (L.map setAV9)=true:=by
 induction L with
 | nil=>rfl
 | cons a l ih=>simp[AV.plainL,AV.plain,AH,ih]
def plcs (i:Nat) (s:List (Int×Int)):List Pl:=s.map fun p=>(p.1,p.2,(i:Int))
def placesL:Nat->List (List (Int×Int))->List Pl
 | _,[]=>[]
 | i,s::L=>plcs i s++placesL (i+1) L
theorem Fu (s:List (Int×Int)):∀(L:List (List (Int×Int))) (i:Nat),placesL i (L++[s])=placesL i L++plcs (i+L.length) s
 | [],i=>by simp[placesL]
 | t::L,i=>by rw[cons_append,placesL,placesL,Fu s L (i+1),append_assoc,length_cons,show i+1+L.length=i+(L.length+1) by omega]
theorem Kf {L:List (List (Int×Int))}{i:Nat}{s:List (Int×Int)} (h:L[i]?=some s):placesL 0 (L.take (i+1))=placesL 0 (L.take i)++plcs i s:=by
 have hi:=(zgb.1 h).1;rw[take_add_one,h,Option.toList_some,Fu,List.length_take,zero_add,Nat.min_eq_left (by omega)]
theorem PU {i k:Nat}{s:List (Int×Int)}{p:Int×Int} (h:s[k]?=some p):plcs i (s.take (k+1))=plcs i (s.take k)++[(p.1,p.2,(i:Int))]:=by
 rw[plcs,take_add_one,h,Option.toList_some,map_append];rfl
theorem Bx:∀ {L:List (List (Int×Int))}{i:Nat},(placesL i L).length=(L.map List.length).sum
 | [],_=>rfl
 | s::L,i=>by rw[placesL,length_append,Bx,plcs,length_map,map_cons,sum_cons]
theorem La (L:List (List (Int×Int))) (i:Nat):((L.take i).map List.length).sum<=(L.map List.length).sum:=by
 have:=List.sum_append_nat (l₁:=(L.take i).map List.length) (l₂:=(L.drop i).map List.length);rw[<- map_append,List.take_append_drop]at this;omega
theorem f129 (L:List (List (Int×Int))) (hl:L.length<=1000000) (hs:(L.map List.length).sum<=1000000) (H:List MB) :
  call Pg pol1 129 [.sl false (L.map setAV9)] H=some (.sl false ((sortP (placesL 0 L)).map el3),H):=by
 have hpl:=AP L;refine AQ Tryz.func129 rfl rfl rfl rfl rfl rfl (fun _=>rfl) (by simp[AV.plain,AV.plainL,hpl]) (by simp[AV.plain,BO]) ?_ H;simp +contextual (disch:=omega) only[Tryz.f129,Mj,go_sem,simprocAttr,evAppend,length_append,map_append,Lw];refine AS (M:=(Ms 129 3)) rfl L.length (fun i=>(⟨32,[(10,I i),(9,I L.length),(8,.sl false (L.map setAV9)),(3,.ms 0 3 (placesL 0 (L.take i)).length 0 (placesL 0 (L.take i)).length)],[.row 3 ((placesL 0 (L.take i)).map el3) 0]⟩:St)) (fun i=>True) ?_ ?_ trivial _ (by first|rfl|(refine AO rfl (by rfl) (by rfl) (by rfl) ?_ ?_<;>simp[AV.underL,AV.under,MB.under,AG,AJ,AF,AH,AK,AM,-map_take,AP,BO]))
 ·intro i hi _;obtain⟨s,hsi⟩:∃ s,L[i]?=some s:=⟨_,zga hi⟩;have hsi':(L.map setAV9)[i]?=some (setAV9 s):=by simp[hsi]
  have hst:=Kf hsi;have hln:=Bx (L:=L.take i) (i:=0);have hln2:=La L i;have hln3:=La L (i+1);rw[<- Bx (L:=L.take (i+1)) (i:=0),hst,length_append]at hln3;have hln4:(plcs i s).length=s.length:=by simp[plcs]
  generalize placesL 0 (L.take i)=l at *;simp +contextual (disch:=omega) only[Tryz.f129,Mj,go_sem,simprocAttr,evAppend,length_append,map_append,Lw,hsi'];refine AS (M:=(Ms 129 6)) rfl s.length (fun k=>(⟨32,[(17,I k),(16,I s.length),(15,.sl false (s.map spanAV)),(10,I i),(9,I L.length),(8,.sl false (L.map setAV9)),(4,I i),(3,.ms 0 3 (l++plcs i (s.take k)).length 0 (l++plcs i (s.take k)).length)],[.row 3 ((l++plcs i (s.take k)).map el3) 0]⟩:St)) (fun i=>True) ?_ ?_ trivial _ ?_
  ·intro k hk _;obtain⟨p,hp⟩:∃ p,s[k]?=some p:=⟨_,zga hk⟩;have hp':(s.map spanAV)[k]?=some (spanAV p):=by simp[hp]
   have hst2:=PU (i:=i) hp;have hlen3:(l++plcs i (s.take k)).length<=4000000:=by rw[length_append,plcs,length_map,List.length_take];omega
   have hst3:l++plcs i (s.take (k+1))=(l++plcs i (s.take k))++[(p.1,p.2,(i:Int))]:=by rw[hst2,append_assoc]
   generalize l++plcs i (s.take (k+1))=l2 at *;generalize l++plcs i (s.take k)=l1 at *;have a1:=fun(x:MB) (t:Bool)=>Ux (H:=[MB.row 3 (l1.map el3) 0,x]) (i:=0) (p:=(p.1,p.2,(i:Int))) (t:=t) rfl (zero_le _) rfl (by omega);simp only[List.set_cons_zero]at a1;rw[<- hst3]at a1;have e2:l2.length=l1.length+1:=by rw[hst3];simp
   rw[e2];simp +contextual (disch:=omega) only[Tryz.f129,Mj,go_sem,simprocAttr,Lw,hp',a1];exact(by first|rfl|(refine AO rfl (by rfl) (by rfl) (by rfl) ?_ ?_<;>simp[AV.underL,AV.under,MB.under,AG,AJ,AF,AH,AK,AM,-map_take,AP,BO]))
  ·intro _;rw[take_length,<- hst];simp +contextual (disch:=omega) only[Tryz.f129,Mj,go_sem,simprocAttr,Lw];exact(by first|rfl|(refine AO rfl (by rfl) (by rfl) (by rfl) ?_ ?_<;>simp[AV.underL,AV.under,MB.under,AG,AJ,AF,AH,AK,AM,-map_take,AP,BO]))
  ·rw[List.take_zero,show plcs i []=[] from rfl,List.append_nil];exact(by first|rfl|(refine AO rfl (by rfl) (by rfl) (by rfl) ?_ ?_<;>simp[AV.underL,AV.under,MB.under,AG,AJ,AF,AH,AK,AM,-map_take,AP,BO]))
 ·intro _;rw[take_length];have hln:=Bx (L:=L) (i:=0);have hse:=Ch (placesL 0 L);generalize placesL 0 L=l at *;obtain⟨H',h1,_,h2,_⟩:=Le (g:=179) (xs:=l) (n:=l.length) rfl (by omega) (H:=[.row 3 (l.map el3) 0]) (id:=0) rfl;have h178:call Pg pol1 178 [.ms 0 3 l.length 0 l.length,.clo 179 []] [.row 3 (l.map el3) 0]=some (.tup [],H'):=by
   rw[BL];unfold evStep;rw[if_neg (show ¬ pol1.pure 178=true by decide)];exact h1
  simp +contextual (disch:=omega) only[Tryz.f129,Mj,go_sem,simprocAttr,Lw,h178];exact⟨_,Av h2 (by rw[length_map];exact hse) (BO _)⟩
end
def chainA:List (Int×Int)->Int->Option Int
 | [],n=>some n
 | p::S,n=>if p.1=n then chainA S (p.2+1) else none
def sumZ:List (Int×Int)->Int
 | []=>0
 | p::S=>p.2-p.1+1+sumZ S
def apartZ (p q:Int×Int):Prop:=p.2<q.1∨q.2<p.1
def topZ:List (Int×Int)->Int
 | []=>-1
 | p::S=>max p.2 (topZ S)
theorem O9 {l l':List (Int×Int)} (h:l.Perm l'):sumZ l=sumZ l':=by
 induction h with
 | nil=>rfl
 | cons x _ ih=>simp only[sumZ,ih]
 | swap x y l=>simp only[sumZ];omega
 | trans _ _ h1 h2=>rw[h1,h2]
theorem Jg {l l':List (Int×Int)} (h:l.Perm l'):topZ l=topZ l':=by
 induction h with
 | nil=>rfl
 | cons x _ ih=>simp only[topZ,ih]
 | swap x y l=>simp only[topZ];omega
 | trans _ _ h1 h2=>rw[h1,h2]
theorem KZ:∀ {l:List (Int×Int)}{p:Int×Int},p∈l->p.2<=topZ l
 | q::l,p,h=>by
   rcases mem_cons.1 h with h|h
   ·subst h;simp only[topZ];omega
   ·have:=KZ h;simp only[topZ];omega
theorem Fk:∀(l:List (Int×Int)),-1<=topZ l
 | []=>by simp[topZ]
 | q::l=>by have:=Fk l;simp only[topZ];omega
theorem C4:∀ {S:List (Int×Int)}{n e:Int},chainA S n=some e->(∀ p∈S,p.1<=p.2)->n<=e/\e=n+sumZ S/\(∀ p∈S,n<=p.1/\p.2<e)
 | [],n,e,h,_=>by simp only[chainA,Option.some.injEq]at h;subst h;exact⟨Int.le_refl _,by simp[sumZ],by simp⟩
 | p::S,n,e,h,hv=>by
   rw[chainA]at h;split at h
   ·rename_i e1;have hp:=hv p (by simp);obtain⟨a,b,c⟩:=C4 h (fun q hq=>hv q (by simp[hq]));refine⟨by omega,by simp only[sumZ];omega,?_⟩;intro q hq;rcases mem_cons.1 hq with h|h
    ·subst h;omega
    ·have:=c q h;omega
   ·simp at h
theorem G9:∀ {S:List (Int×Int)}{n e:Int},chainA S n=some e->(∀ p∈S,p.1<=p.2)->S.Pairwise apartZ
 | [],_,_,_,_=>.nil
 | p::S,n,e,h,hv=>by
   rw[chainA]at h;split at h
   ·refine .cons (fun q hq=>?_) (G9 h fun q hq=>hv q (by simp[hq]));have:=(C4 h fun q hq=>hv q (by simp[hq])).2.2 q hq;left;omega
   ·simp at h
theorem E1:∀ {S:List (Int×Int)}{n e:Int},chainA S n=some e->(∀ p∈S,p.1<=p.2)->S≠[]->topZ S=max (e-1) (-1)
 | [],_,_,_,_,h=>(h rfl).elim
 | p::S,n,e,h,hv,_=>by
   rw[chainA]at h;split at h
   ·have hs:=fun q (hq:q∈S)=>hv q (List.mem_cons_of_mem _ hq);cases S with
    | nil=>simp only[chainA,Option.some.injEq]at h;subst h;simp only[topZ];omega
    | cons q S=>
      have:=E1 h hs (by simp);have h2:=(C4 h hs).1;rw[topZ,this];omega
   ·simp at h
theorem OG:∀ {S:List (Int×Int)}{n top:Int},S.Pairwise (fun p q=>p.1<=q.1)->S.Pairwise apartZ->(∀ p∈S,p.1<=p.2/\n<=p.1/\p.2<=top)->n<=top+1->sumZ S<=top+1-n
 | [],_,_,_,_,_,h=>by simp only[sumZ];omega
 | p::S,n,top,h1,h2,h3,h=>by
   obtain⟨a1,a2⟩:=pairwise_cons.1 h1;obtain⟨b1,b2⟩:=pairwise_cons.1 h2;have hp:=h3 p (by simp);have:=OG (n:=p.2+1) (top:=top) a2 b2 (fun q hq=>by
    have c1:=a1 q hq;have c3:=h3 q (by simp[hq]);rcases b1 q hq with h|h<;>omega) (by omega)
   simp only[sumZ];omega
theorem Mu:∀ {S:List (Int×Int)}{n top:Int},S.Pairwise (fun p q=>p.1<=q.1)->S.Pairwise apartZ->(∀ p∈S,p.1<=p.2/\n<=p.1/\p.2<=top)->sumZ S=top+1-n->chainA S n=some (top+1)
 | [],n,top,_,_,_,h=>by simp only[sumZ]at h;simp only[chainA,Option.some.injEq];omega
 | p::S,n,top,h1,h2,h3,h=>by
   obtain⟨a1,a2⟩:=pairwise_cons.1 h1;obtain⟨b1,b2⟩:=pairwise_cons.1 h2;have hp:=h3 p (by simp);have hq:∀ q∈S,q.1<=q.2/\p.2+1<=q.1/\q.2<=top:=fun q hq=>by
    have c1:=a1 q hq;have c3:=h3 q (by simp[hq]);rcases b1 q hq with h|h<;>omega
   have h4:=OG (n:=p.2+1) (top:=top) a2 b2 hq (by omega);simp only[sumZ]at h;rw[chainA,if_pos (by omega)];exact Mu a2 b2 hq (by omega)
theorem DO {p q:Int×Int} (h:apartZ p q):apartZ q p:=by
 rcases h with h|h
 ·exact .inr h
 ·exact .inl h
theorem Me {F S:List (Int×Int)} (hp:S.Perm F) (hs:S.Pairwise (fun p q=>p.1<=q.1)) (hv:∀ p∈F,0<=p.1/\p.1<=p.2) (top:Int) (ht:0<top) :
  chainA S 0=some (top+1)↔topZ F=top/\F.Pairwise apartZ/\sumZ F=top+1:=by
 have hv':∀ p∈S,0<=p.1/\p.1<=p.2:=fun p h=>hv p (hp.mem_iff.1 h);have he:F.Pairwise apartZ↔S.Pairwise apartZ:=(hp.pairwise_iff DO).symm;rw[<- Jg hp,<- O9 hp,he];constructor
 ·intro h;have h1:=C4 h fun p h=>(hv' p h).2;have hn:S≠[]:=by
   intro e;subst e;simp only[chainA,Option.some.injEq]at h;omega
  have h2:=E1 h (fun p h=>(hv' p h).2) hn;exact⟨by omega,G9 h fun p h=>(hv' p h).2,by omega⟩
 ·intro ⟨h1,h2,h3⟩;exact Mu hs h2 (fun p h=>⟨(hv' p h).2,(hv' p h).1,by have:=KZ h;omega⟩) (by omega)
theorem FM {L:List (List (Int×Int))} (h:∀ s∈L,s.Pairwise fun p q=>p.2<q.1) :
  L.flatten.Pairwise apartZ↔L.Pairwise fun s t=>∀ p∈s,∀ q∈t,apartZ p q:=by
 rw[List.pairwise_flatten];constructor
 ·exact fun h=>h.2
 ·exact fun h2=>⟨fun s hs=>(h s hs).imp fun h=>.inl h,h2⟩
theorem DL:∀ {S:List (Int×Int)}{n e:Int},chainA S n=some e->(∀ p∈S,p.1<=p.2)->S.Pairwise fun p q=>p.2<q.1
 | [],_,_,_,_=>.nil
 | p::S,n,e,h,hv=>by
   rw[chainA]at h;split at h
   ·refine .cons (fun q hq=>?_) (DL h fun q hq=>hv q (by simp[hq]));have:=(C4 h fun q hq=>hv q (by simp[hq])).2.2 q hq;omega
   ·simp at h
theorem Fx {S:List (Int×Int)} (h:S.Pairwise fun p q=>p.2<q.1) (hv:∀ p∈S,p.1<=p.2) {i k:Nat} (hik:i<k) (hk:k<S.length):S[i].2<S[k].1/\S[i].2<S[k].2:=by
 have h1:=List.pairwise_iff_getElem.1 h i k (by omega) hk hik;have h2:=hv S[k] (List.getElem_mem hk);omega
theorem KR:∀ {S:List (Int×Int)}{n e:Int},chainA S n=some e->∀ x,n<=x->x<e->∃ p∈S,p.1<=x/\x<=p.2
 | [],n,e,h,x,h1,h2=>by simp only[chainA,Option.some.injEq]at h;omega
 | p::S,n,e,h,x,h1,h2=>by
   rw[chainA]at h;split at h
   ·by_cases hx:x<=p.2
    ·exact⟨p,by simp,by omega,hx⟩
    ·obtain⟨q,hq,h3⟩:=KR h x (by omega) h2;exact⟨q,by simp[hq],h3⟩
   ·simp at h
abbrev Cls:=List (List (Int×Int))
def headLo (s:List (Int×Int)):Int:=(s.head?.map (·.1)).getD 0
def badC (cl:Cls) (i:Nat):Bool:=
 match cl[i]? with
 | some s=>decide (refSpans s≠0)||s.isEmpty||(match i with
   | 0=>false
   | k+1=>match cl[k]? with
     | some t=>decide (headLo s<=headLo t)
     | none=>false)
 | none=>false
def ordC (cl:Cls):Bool:=!(List.range cl.length).any (badC cl)
theorem OM {cl:Cls} (h:∀ k,k<cl.length->badC cl k=false):ordC cl=true:=by
 have:(List.range cl.length).any (badC cl)=false:=by
  rw[List.any_eq_false];intro k hk;rw[h k (mem_range.1 hk)];simp
 simp[ordC,this]
theorem Hy {cl:Cls}{i:Nat} (hi:i<cl.length) (h:badC cl i=true):ordC cl=false:=by
 have:(List.range cl.length).any (badC cl)=true:=any_eq_true.2 ⟨i,mem_range.2 hi,h⟩;simp[ordC,this]
theorem Hz {cl:Cls} (h:ordC cl=true) {i:Nat} (hi:i<cl.length):badC cl i=false:=by
 simp only[ordC,Bool.not_eq_true',List.any_eq_false,mem_range]at h;have:=h i hi
 simpa using this
def endC (S:List (Int×Int)):Bool:=
 match chainA S 0 with
 | some e=>decide (e=256)||decide (e=1114112)
 | none=>false
def meetS (s t:List (Int×Int)):Bool:=s.any fun p=>t.any fun q=>decide (p.1<=q.2)&&decide (q.1<=p.2)
def badM (cl:Cls) (i:Nat):Bool:=(List.range i).any fun j=>meetS (cl[i]?.getD []) (cl[j]?.getD [])
def partedA (cl:Cls):Bool:=
 (decide (topZ cl.flatten=255)||decide (topZ cl.flatten=1114111))&&!(List.range cl.length).any (fun i=>badC cl i||badM cl i)&&decide (sumZ cl.flatten=topZ cl.flatten+1)
theorem Az {l:List (Int×Int)} (h:refSpans l=0):(∀ i,(hi:i<l.length)->0<=l[i].1/\l[i].1<=l[i].2/\l[i].2<=1114111/\∀ k,i=k+1->2<=l[i].1-(l[k]?.getD (0,0)).2)/\l.length<=64:=by
 unfold refSpans at h;split at h
 ·cases h
 ·rename_i h1;refine⟨fun i hi=>?_,by split at h;cases h;omega⟩;have h2:badAt l i=false:=by
   simp only[any_eq_true,mem_range,not_exists,not_and,Bool.not_eq_true]at h1;exact h1 i hi
  unfold badAt at h2;rw[zga hi]at h2;simp only[Bool.or_eq_false_iff,Bool.not_eq_false',decide_eq_true_eq]at h2;refine⟨h2.1.1,h2.1.2.1,h2.1.2.2,fun k hk=>?_⟩;subst hk;have h3:=h2.2;have hk2:k<l.length:=by omega
  simp only[zga hk2,decide_eq_false_iff_not]at h3;simp only[zga hk2,getD_some];omega
theorem At {l:List (Int×Int)} (h:refSpans l=0):∀ p∈l,0<=p.1/\p.1<=p.2/\p.2<=1114111:=fun p hp=>by
 obtain⟨i,hi,rfl⟩:=List.getElem_of_mem hp;have:=(Az h).1 i hi;exact⟨this.1,this.2.1,this.2.2.1⟩
theorem BN {l:List (Int×Int)} (h:refSpans l=0):l.Pairwise fun p q=>p.2+1<q.1:=by
 have h1:=(Az h).1;rw[List.pairwise_iff_getElem];intro i j hi hj hij;have key:∀ d,(hd:i+1+d<l.length)->l[i].2+1<l[i+1+d].1:=by
  intro d
  induction d with
  | zero=>
    intro hd;have:=(h1 (i+1) hd).2.2.2 i rfl;rw[zga hi,getD_some]at this;simp only[Nat.add_zero];omega
  | succ d ih=>
    intro hd;have a1:=ih (by omega);have a2:=(h1 (i+1+d) (by omega)).2.1;have:=(h1 (i+1+(d+1)) hd).2.2.2 (i+1+d) rfl;rw[zga (by omega),getD_some]at this;omega
 have:=key (j-(i+1)) (by omega)
 simpa [show i+1+(j-(i+1))=j by omega] using this
theorem GO {cl:Cls} (h:ordC cl=true):∀ s∈cl,refSpans s=0/\s≠[]:=fun s hs=>by
 obtain⟨i,hi,rfl⟩:=List.getElem_of_mem hs;have h1:=Hz h hi;unfold badC at h1;rw[zga hi]at h1;simp only[Bool.or_eq_false_iff,decide_eq_false_iff_not,Decidable.not_not]at h1;exact⟨h1.1.1,fun e=>by rw[e]at h1;simp at h1⟩
theorem GS {s t:List (Int×Int)}:meetS s t=false↔∀ p∈s,∀ q∈t,apartZ p q:=by
 unfold meetS apartZ;simp only[List.any_eq_false,any_eq_true,not_exists,not_and,Bool.not_eq_true,Bool.and_eq_true,decide_eq_true_eq,Bool.and_eq_false_imp,decide_eq_false_iff_not];constructor
 ·intro h p hp q hq;by_cases h1:p.1<=q.2
  ·have:=h p hp q hq h1;omega
  ·omega
 ·intro h p hp q hq h1;have:=h p hp q hq;omega
theorem RQ {cl:Cls}:(∀ i,i<cl.length->badM cl i=false)↔cl.Pairwise fun s t=>∀ p∈s,∀ q∈t,apartZ p q:=by
 rw[List.pairwise_iff_getElem];constructor
 ·intro h i j hi hj hij p hp q hq;have h1:=h j hj;unfold badM at h1;simp only[List.any_eq_false,mem_range]at h1;have h2:=h1 i hij;rw[zga hj,zga hi,getD_some,getD_some,Bool.not_eq_true,GS]at h2;exact DO (h2 q hq p hp)
 ·intro h j hj;unfold badM;simp only[List.any_eq_false,mem_range];intro i hij;rw[zga hj,zga (by omega),getD_some,getD_some,Bool.not_eq_true,GS];exact fun q hq p hp=>DO (h i j (by omega) hj hij p hp q hq)
theorem Ik {cl:Cls}{S:List (Int×Int)} (h:ordC cl=true) (hp:S.Perm cl.flatten) (hs:S.Pairwise fun p q=>p.1<=q.1):endC S=partedA cl:=by
 have hset:=GO h;have hv:∀ p∈cl.flatten,0<=p.1/\p.1<=p.2:=fun p hp=>by
  obtain⟨s,hs,hps⟩:=List.mem_flatten.1 hp;have:=At (hset s hs).1 p hps;omega
 have hin:∀ s∈cl,s.Pairwise fun p q=>p.2<q.1:=fun s hs=>(BN (hset s hs).1).imp fun h=>by omega
 have key:=fun(top:Int) (ht:0<top)=>Me hp hs hv top ht;have k1:=key 255 (by omega);have k2:=key 1114111 (by omega);rw[FM hin,<- RQ]at k1 k2;have hb:(!(List.range cl.length).any (fun i=>badC cl i||badM cl i))=decide (∀ i,i<cl.length->badM cl i=false):=by
  rw[Bool.eq_iff_iff,decide_eq_true_eq,Bool.not_eq_true',List.any_eq_false];constructor
  ·intro h2 i hi;have:=h2 i (mem_range.2 hi);simp only[Bool.or_eq_true,not_or,Bool.not_eq_true]at this;exact this.2
  ·intro h2 i hi;simp only[Bool.or_eq_true,not_or,Bool.not_eq_true];exact⟨Hz h (mem_range.1 hi),h2 i (mem_range.1 hi)⟩
 unfold partedA;rw[hb];unfold endC;by_cases hm:∀ i,i<cl.length->badM cl i=false
 ·by_cases t1:topZ cl.flatten=255/\sumZ cl.flatten=256
  ·have:=k1.2 ⟨t1.1,hm,t1.2⟩;rw[this];simp[t1,hm];exact hm
  ·by_cases t2:topZ cl.flatten=1114111/\sumZ cl.flatten=1114112
   ·have:=k2.2 ⟨t2.1,hm,t2.2⟩;rw[this];simp[t2,hm];exact hm
   ·have r:((decide (topZ cl.flatten=255)||decide (topZ cl.flatten=1114111))&&decide (∀ i,i<cl.length->badM cl i=false)&&decide (sumZ cl.flatten=topZ cl.flatten+1))=false:=by
     rw[Bool.eq_false_iff];intro h3;simp only[Bool.and_eq_true,Bool.or_eq_true,decide_eq_true_eq]at h3;obtain⟨⟨h3|h3,_⟩,h4⟩:=h3
     ·exact t1 ⟨h3,by omega⟩
     ·exact t2 ⟨h3,by omega⟩
    rw[r];split
    ·rename_i e he;simp only[Bool.or_eq_false_iff,decide_eq_false_iff_not];refine⟨fun e1=>?_,fun e1=>?_⟩
     ·subst e1;have:=k1.1 he;exact t1 ⟨this.1,this.2.2⟩
     ·subst e1;have:=k2.1 he;exact t2 ⟨this.1,this.2.2⟩
    ·rfl
 ·rw[decide_eq_false hm,Bool.and_false,Bool.false_and];split
  ·rename_i e he;simp only[Bool.or_eq_false_iff,decide_eq_false_iff_not];refine⟨fun e1=>?_,fun e1=>?_⟩
   ·subst e1;exact hm (k1.1 he).2.1
   ·subst e1;exact hm (k2.1 he).2.1
  ·rfl
theorem NL {cl:Cls} (h:ordC cl=false):partedA cl=false:=by
 have:(List.range cl.length).any (fun i=>badC cl i||badM cl i)=true:=by
  simp only[ordC,Bool.not_eq_false',any_eq_true]at h;obtain⟨i,hi,h⟩:=h;exact any_eq_true.2 ⟨i,hi,by simp[h]⟩
 simp[partedA,this]
end Go.Ev
namespace Go.Ev
attribute [local go_sem] evBin AV.cells An As bndO bnd evEq eqCells not_false_eq_true not_true_eq_false toList_some Array.size_empty tySzE head?_drop mul_one Ac Aj Aa Ad Ae AW
section
attribute [local go_sem] evAppend strOf length_append map_append
abbrev spanOf (p:Pl):Int×Int:=(p.1,p.2.1)
def dividesA (L:Cls):Bool:=ordC L&&endC ((sortP (placesL 0 L)).map spanOf)
def nxtP (S:List Pl):Nat->Int
 | 0=>0
 | k+1=>((S[k]?).map fun p=>p.2.1+1).getD 0
theorem Fc:∀(A B:List (Int×Int)) (n:Int),chainA (A++B) n=(chainA A n).bind fun m=>chainA B m
 | [],B,n=>rfl
 | p::A,B,n=>by
   rw[cons_append,chainA,chainA];split
   ·exact Fc A B _
   ·rfl
theorem N3 {S:List Pl}{k:Nat}{p:Pl} (hp:S[k]?=some p) (h:chainA ((S.map spanOf).take k) 0=some (nxtP S k)) (e:p.1=nxtP S k):chainA ((S.map spanOf).take (k+1)) 0=some (nxtP S (k+1)):=by
 have hp2:(S.map spanOf)[k]?=some (spanOf p):=by simp[hp]
 rw[take_add_one,hp2,Fc,h];have e2:nxtP S (k+1)=p.2.1+1:=by simp[nxtP,hp]
 rw[e2];simp only[Option.toList_some,bind_some,chainA];rw[if_pos e]
theorem P0 {S:List Pl}{k:Nat}{p:Pl} (hp:S[k]?=some p) (h:chainA ((S.map spanOf).take k) 0=some (nxtP S k)) (e:p.1≠nxtP S k):endC (S.map spanOf)=false:=by
 have hp2:(S.map spanOf)[k]?=some (spanOf p):=by simp[hp]
 have hk:=(zgb.1 hp2).1;have h2:chainA (S.map spanOf) 0=none:=by
  rw[<- List.take_append_drop k (S.map spanOf),Fc,h];simp only[bind_some];rw[List.drop_eq_getElem_cons hk,chainA];have:(S.map spanOf)[k]=spanOf p:=(zgb.1 hp2).2;rw[this,if_neg e]
 simp[endC,h2]
theorem D9 {L:Cls} (h:ordC L=false):dividesA L=false:=by simp[dividesA,h]
theorem FV:∀ {L:Cls}{i:Nat}{p:Pl},p∈placesL i L->∃ s∈L,spanOf p∈s
 | [],_,_,h=>by simp[placesL]at h
 | s::L,i,p,h=>by
   rw[placesL,List.mem_append]at h;rcases h with h|h
   ·obtain⟨q,hq,rfl⟩:=mem_map.1 h;exact⟨s,by simp,hq⟩
   ·obtain⟨t,ht,h2⟩:=FV h;exact⟨t,by simp[ht],h2⟩
theorem CB:∀ {l:List Nat}{x:Nat},x∈l->x<=l.sum
 | y::l,x,h=>by
   rw[sum_cons];rcases mem_cons.1 h with h|h
   ·omega
   ·have:=CB h;omega
theorem f67 (L:Cls) (hl:L.length<=1000000) (hs:(L.map List.length).sum<=1000000) (H:List MB) :
  call Pg pol1 67 [.sl false (L.map setAV9)] H=some (.bool (dividesA L),H):=by
 have hpl:=AP L;have h129:=f129 L hl hs;have hsl:∀ s∈L,s.length<=1000000:=fun s hm=>by
  have:s.length<=(L.map List.length).sum:=CB (mem_map.2 ⟨s,hm,rfl⟩);omega
 refine AQ Tryz.func67 rfl rfl rfl rfl rfl rfl (fun _=>rfl) (by simp[AV.plain,AV.plainL,hpl]) (by simp[AV.plain]) ?_ H;simp +contextual (disch:=omega) only[Tryz.f67,dd67,go_sem,simprocAttr,mu67];refine AS (M:=(Ms 67 2)) rfl L.length (fun i=>(⟨64,[(10,I i),(9,I L.length),(8,.sl false (L.map setAV9)),(0,.sl false (L.map setAV9))],[]⟩:St)) (fun i=>∀ k,k<i->badC L k=false) ?_ ?_ (fun k h=>by omega) _ rfl
 ·intro i hi hinv;obtain⟨s,hsi⟩:∃ s,L[i]?=some s:=⟨_,zga hi⟩;have hsi':(L.map setAV9)[i]?=some (setAV9 s):=by simp[hsi]
  have h88:=f121 s (hsl s (zgc hsi));have ext:badC L i=false->∀ k,k<i+1->badC L k=false:=fun h k hk=>by
   rcases lt_or_ge k i with h1|h1
   ·exact hinv k h1
   ·obtain rfl:k=i:=by omega
    exact h
  by_cases hv:refSpans s=0
  ·cases s with
   | nil=>
     have hb:dividesA L=false:=D9 (Hy hi (by simp[badC,hsi]));rw[hb];rw[hv]at h88;simp +contextual (disch:=omega) only[Tryz.f67,dd67,go_sem,simprocAttr,mu67,hsi',h88];exact fzEq rfl rfl
   | cons p s=>
     rw[hv]at h88;have hp0:((p::s).map spanAV)[0]?=some (spanAV p):=rfl;rcases i with _|k
     ·have hb:badC L 0=false:=by simp[badC,hsi,hv]
      simp +contextual (disch:=omega) only[Tryz.f67,dd67,go_sem,simprocAttr,mu67,hsi',h88,hp0,spanAV];exact⟨by unfold dOk;kernel_rfl,ext hb,rfl⟩
     ·obtain⟨t,ht⟩:∃ t,L[k]?=some t:=⟨_,zga (by omega)⟩;have ht':(L.map setAV9)[k]?=some (setAV9 t):=by simp[ht]
      have hbk:=hinv k (by omega);cases t with
      | nil=>simp[badC,ht]at hbk
      | cons q t=>
        have hq0:((q::t).map spanAV)[0]?=some (spanAV q):=rfl;have hb:badC L (k+1)=decide (p.1<=q.1):=by
         simp only[badC,hsi,ht,hv,headLo];simp<;>rfl
        simp +contextual (disch:=omega) only[Tryz.f67,dd67,go_sem,simprocAttr,mu67,hsi',ht',h88,hp0,hq0,spanAV];refine⟨by unfold dOk;kernel_rfl,fun h=>fzEq rfl ?_,fun h=>⟨ext ?_,rfl⟩⟩
        ·rw[D9 (Hy hi (by rw[hb,decide_eq_true h]))]
        ·rw[hb,decide_eq_false h]
  ·have hb:dividesA L=false:=D9 (Hy hi (by simp[badC,hsi,hv]));rw[hb];simp +contextual (disch:=omega) only[Tryz.f67,dd67,go_sem,simprocAttr,mu67,hsi',h88,hv];exact fzEq rfl rfl
 ·intro hinv;have ho:=OM hinv;have hda:dividesA L=endC ((sortP (placesL 0 L)).map spanOf):=by simp[dividesA,ho]
  have hset:=GO ho;have hS:∀ p∈sortP (placesL 0 L),0<=p.1/\p.1<=p.2.1/\p.2.1<=1114111:=fun p hp=>by
   obtain⟨s,hs1,hs2⟩:=FV ((Ba _).mem_iff.1 hp);exact At (hset s hs1).1 _ hs2
  rw[hda];have hlen:(sortP (placesL 0 L)).length<=1000000:=by rw[Ch,Bx];omega
  generalize sortP (placesL 0 L)=S at *;simp +contextual (disch:=omega) only[Tryz.f67,dd67,go_sem,simprocAttr,mu67,h129];refine AS (M:=(Ms 67 11)) rfl S.length (fun k=>(⟨64,[(44,I k),(43,I S.length),(42,.sl false (S.map el3)),(5,I (nxtP S k))],[]⟩:St)) (fun k=>chainA ((S.map spanOf).take k) 0=some (nxtP S k)) ?_ ?_ rfl _ (by first|rfl|(refine AO rfl (by rfl) (by rfl) (by rfl) ?_ ?_<;>simp[AV.underL,AV.under,MB.under,AG,AJ,AF,AH,AK,AM,-map_take,BO]))
  ·intro k hk hc;obtain⟨p,hp⟩:∃ p,S[k]?=some p:=⟨_,zga hk⟩;have hp':(S.map el3)[k]?=some (.agg [I p.1,I p.2.1,I p.2.2]):=by simp[hp,el3]
   have hb:=hS p (zgc hp);have hw:IntKind.i64.wrap (p.2.1+1)=p.2.1+1:=by rw[i64_in];omega
   have en:nxtP S (k+1)=p.2.1+1:=by simp[nxtP,hp]
   by_cases e:p.1=nxtP S k
   ·have hn:=N3 hp hc e;rw[en]at hn |-;simp +contextual (disch:=omega) only[Tryz.f67,dd67,go_sem,simprocAttr,mu67,hp',hw,e];exact⟨hn,(by first|rfl|(refine AO rfl (by rfl) (by rfl) (by rfl) ?_ ?_<;>simp[AV.underL,AV.under,MB.under,AG,AJ,AF,AH,AK,AM,-map_take,BO]))⟩
   ·rw[P0 hp hc e];simp +contextual (disch:=omega) only[Tryz.f67,dd67,go_sem,simprocAttr,mu67,hp',hw,e];exact fzEq rfl rfl
  ·intro hc;have he:endC (S.map spanOf)=(decide (nxtP S S.length=256)||decide (nxtP S S.length=1114112)):=by
    have:(S.map spanOf).take S.length=S.map spanOf:=take_of_length_le (by simp);rw[this]at hc;simp[endC,hc]
   rw[he];by_cases e:nxtP S S.length=256
   ·simp +contextual (disch:=omega) only[Tryz.f67,dd67,go_sem,simprocAttr,mu67,e];exact fzEq rfl rfl
   ·simp +contextual (disch:=omega) only[Tryz.f67,dd67,go_sem,simprocAttr,mu67,e];exact fzEq rfl (by rw[Bool.false_or];rfl)
end
section
attribute [local go_sem] evAppend strOf length_append map_append
structure AutoL where
 cl:Cls
 nx:List (List Int)
 ac:List Bool
abbrev rowAV (r:List Int):AV:=.sl false (r.map I)
abbrev autoAV (a:AutoL):AV:=.agg [.sl false (a.cl.map setAV9),.sl false (a.nx.map rowAV),.sl false (a.ac.map AV.bool)]
theorem AT (L:List (List Int)):AV.plainL (L.map rowAV)=true:=by
 induction L with
 | nil=>rfl
 | cons a l ih=>simp[AV.plainL,AV.plain,AF,ih]
structure AutoB (a:AutoL):Prop where
 cl:a.cl.length<=1000000
 sum:(a.cl.map List.length).sum<=1000000
 nx:a.nx.length<=1000000
 ac:a.ac.length<=1000000
 row:∀ r∈a.nx,r.length<=1000000
def okSt (n:Nat) (t:Int):Bool:=decide (0<=t)&&decide (t<n)
def okRow (n m:Nat) (r:List Int):Bool:=decide (r.length=m)&&r.all (okSt n)
def validW (d:Bool) (a:AutoL):Int:=
 if 1024<a.cl.length∨1024<a.nx.length∨1024<a.ac.length then 4
 else if a.nx.length=0∨a.ac.length≠a.nx.length∨d=false then 1
 else if a.nx.all (okRow a.nx.length a.cl.length) then 0 else 1
theorem Dh (x y:Nat):evMax (.int .i64 x) (.int .i64 y)=some (.int .i64 ((max x y:Nat):Int)):=by
 unfold evMax;simp only[Option.some.injEq,AV.int.injEq,true_and];split<;>omega
theorem AN (l:List Bool):AV.plainL (l.map AV.bool)=true:=by
 induction l with
 | nil=>rfl
 | cons a l ih=>simp[AV.plainL,AV.plain,ih]
theorem AX (a:AutoL):AV.plain (autoAV a)=true:=by simp[AV.plain,AV.plainL,AP,AT,AN]
theorem HZ {α:Type}{p:α->Bool}{l:List α}{i:Nat}{x:α} (h:l[i]?=some x) (hp:p x=false):l.all p=false:=by
 rw[List.all_eq_false];exact⟨x,zgc h,by simp[hp]⟩
theorem LL {α:Type}{p:α->Bool}{l:List α} (h:∀ k,k<l.length->∀ x,l[k]?=some x->p x=true):l.all p=true:=by
 rw[List.all_eq_true];intro x hx;obtain⟨i,hi,e⟩:=List.getElem_of_mem hx;exact h i hi x (by rw[zga hi,e])
theorem f18 (a:AutoL) (hb:AutoB a) (H:List MB):call Pg pol1 18 [autoAV a] H=some (I (validW (dividesA a.cl) a),H):=by
 have hpl:=AX a;have h67:=f67 a.cl hb.cl hb.sum;have b1:=hb.cl;have b2:=hb.nx;have b3:=hb.ac;have hrow:=hb.row;obtain⟨cl,nx,ac⟩:=a;simp only at h67 b1 b2 b3 hrow;unfold validW;simp only;generalize dividesA cl=d at *;refine AQ Tryz.func18 rfl rfl rfl rfl rfl rfl (fun _=>rfl) (by simp only[AV.plainL,hpl];rfl) (by simp[AV.plain]) ?_ H;by_cases c1:1024<cl.length∨1024<nx.length∨1024<ac.length
 ·rw[if_pos c1];simp +contextual (disch:=omega) only[Tryz.f18,dd18,go_sem,simprocAttr,mu18,Dh];exact⟨fun _=>fzEq rfl rfl,fun _=>fzEq rfl rfl⟩
 ·rw[if_neg c1];by_cases c2:nx.length=0∨ac.length≠nx.length∨d=false
  ·rw[if_pos c2];cases d with
   | false=>
     simp +contextual (disch:=omega) only[Tryz.f18,dd18,go_sem,simprocAttr,mu18,h67,Dh];exact⟨fun _=>fzEq rfl rfl,fun _=>⟨fun _=>fzEq rfl rfl,fun _=>fzEq rfl rfl⟩⟩
   | true=>
     have c3:nx.length=0∨ac.length≠nx.length:=by simpa using c2
     by_cases c4:nx.length=0
     ·have c5:(nx.length:Int)=0:=by omega
      simp +contextual (disch:=omega) only[Tryz.f18,dd18,go_sem,simprocAttr,mu18,h67,Dh];exact fzEq rfl rfl
     ·have c6:¬ (ac.length:Int)=(nx.length:Int):=by omega
      simp +contextual (disch:=omega) only[Tryz.f18,dd18,go_sem,simprocAttr,mu18,h67,Dh,c6];exact fzEq rfl rfl
  ·rw[if_neg c2];have hd:d=true:=by cases d<;>simp_all
   subst hd;have c4:ac.length=nx.length/\nx.length≠0:=by
    constructor
    ·by_cases e:ac.length=nx.length
     ·exact e
     ·exact absurd (.inr (.inl e)) c2
    ·exact fun e=>c2 (.inl e)
   simp +contextual (disch:=omega) only[Tryz.f18,dd18,go_sem,simprocAttr,mu18,h67,Dh];refine AS (M:=(Ms 18 7)) rfl nx.length (fun i=>(⟨66,[(41,I i),(40,I nx.length),(39,.sl false (nx.map rowAV)),(3,I nx.length),(1,.rf 0 1 0 0)],[.row 3 [autoAV ⟨cl,nx,ac⟩] 0]⟩:St)) (fun i=>∀ k,k<i->∀ x,nx[k]?=some x->okRow nx.length cl.length x=true) ?_ ?_ (fun k h=>by omega) _ rfl
   ·intro i hi hinv;obtain⟨r,hr⟩:∃ r,nx[i]?=some r:=⟨_,zga hi⟩;have hr':(nx.map rowAV)[i]?=some (rowAV r):=by simp[hr]
    have hrl:=hrow r (zgc hr);have bad:okRow nx.length cl.length r=false->(if nx.all (okRow nx.length cl.length)=true then(0:Int) else 1)=1:=fun h=>by
     rw[HZ hr h];rfl
    by_cases c5:r.length=cl.length
    ·have c6:(r.length:Int)=(cl.length:Int):=by omega
     simp +contextual (disch:=omega) only[Tryz.f18,dd18,go_sem,simprocAttr,mu18,hr',c6];refine AS (M:=(Ms 18 12)) rfl r.length (fun k=>(⟨66,[(53,I k),(52,I r.length),(51,rowAV r),(41,I i),(40,I nx.length),(39,.sl false (nx.map rowAV)),(3,I nx.length),(1,.rf 0 1 0 0)],[.row 3 [autoAV ⟨cl,nx,ac⟩] 0]⟩:St)) (fun k=>∀ j,j<k->∀ x,r[j]?=some x->okSt nx.length x=true) ?_ ?_ (fun k h=>by omega) _ (by simp only[c6];rfl)
     ·intro k hk hk2;obtain⟨t,ht⟩:∃ t,r[k]?=some t:=⟨_,zga hk⟩;have ht':(r.map I)[k]?=some (I t):=by simp[ht]
      have badt:okSt nx.length t=false->(if nx.all (okRow nx.length cl.length)=true then(0:Int) else 1)=1:=fun h=>bad (by simp[okRow,HZ ht h]);by_cases e1:t<0
      ·rw[badt (by simp[okSt];omega)];simp +contextual (disch:=omega) only[Tryz.f18,dd18,go_sem,simprocAttr,mu18,ht',e1];exact fzEq rfl rfl
      ·by_cases e2:t<(nx.length:Int)
       ·simp +contextual (disch:=omega) only[Tryz.f18,dd18,go_sem,simprocAttr,mu18,ht',e1,e2];refine⟨fun j hj x hx=>?_,rfl⟩;rcases lt_or_ge j k with h1|h1
        ·exact hk2 j h1 x hx
        ·obtain rfl:j=k:=by omega
         rw[ht]at hx;cases hx;simp[okSt];omega
       ·rw[badt (by simp[okSt];omega)];simp +contextual (disch:=omega) only[Tryz.f18,dd18,go_sem,simprocAttr,mu18,ht',e1,e2];exact fzEq rfl rfl
     ·intro hk2;have ok1:okRow nx.length cl.length r=true:=by simp only[okRow,c5,LL hk2];rfl
      simp +contextual (disch:=omega) only[Tryz.f18,dd18,go_sem,simprocAttr,mu18];refine⟨fun j hj x hx=>?_,rfl⟩;rcases lt_or_ge j i with h1|h1
      ·exact hinv j h1 x hx
      ·obtain rfl:j=i:=by omega
       rw[hr]at hx;cases hx;exact ok1
    ·have c6:¬ (r.length:Int)=(cl.length:Int):=by omega
     rw[bad (by simp[okRow,c5])];simp +contextual (disch:=omega) only[Tryz.f18,dd18,go_sem,simprocAttr,mu18,hr',c6];exact fzEq rfl rfl
   ·intro hinv;have:(if nx.all (okRow nx.length cl.length)=true then(0:Int) else 1)=0:=by
     rw[LL hinv];rfl
    rw[this];simp +contextual (disch:=omega) only[Tryz.f18,dd18,go_sem,simprocAttr,mu18];exact fzEq rfl rfl
end
end Go.Ev
