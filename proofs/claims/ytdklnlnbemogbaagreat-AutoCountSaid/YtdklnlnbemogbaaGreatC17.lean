/- Freezing of slices of slices over blocks of one's own. -/
import Derived.Test.YtdklnlnbemogbaaGreatC16
import Derived.Test.YtdklnlnbemogbaaGreatC07
set_option linter.unusedVariables false
set_option linter.unusedSimpArgs false
namespace Go.Ev
open Go.Proofs Go.RowKit Go.IntWalk
theorem mark_keep {H:List MB}{id n i k z:Nat}{els:List AV} (h:getRow H i=some (k,els,z)):∃ z',getRow (mark H id n) i=some (k,els,z'):=by
 unfold mark
 cases hr:getRow H id with
 | none=>exact⟨z,h⟩
 | some x=>
   obtain⟨k',els',z'⟩:=x
   simp only
   by_cases e:id=i
   ·subst e
    rw[h]at hr
    cases hr
    unfold getRow at h ⊢
    have hlt:id<H.length:=by
     rcases Nat.lt_or_ge id H.length with h1|h1
     ·exact h1
     ·rw[List.getElem?_eq_none h1]at h;cases h
    rw[List.getElem?_set_self hlt]
    exact⟨_,rfl⟩
   ·unfold getRow at h ⊢
    rw[List.getElem?_set_ne e]
    exact⟨z,h⟩
def Cel (H:List MB) (k:Nat) (x:AV) (e:List AV):Prop:=AV.plainL e=true∧((∃ t,x=.sl t e)∨∃ id z,x=.ms id k e.length 0 e.length∧getRow H id=some (k,e,z))
theorem Cel.mark {H:List MB}{k:Nat}{x:AV}{e:List AV} (h:Cel H k x e) (id n:Nat):Cel (mark H id n) k x e:=by
 obtain⟨h1,h2⟩:=h
 refine⟨h1,?_⟩
 rcases h2 with h2|⟨i,z,a,b⟩
 ·exact .inl h2
 ·obtain⟨z',c⟩:=mark_keep (id:=id) (n:=n) b
  exact .inr ⟨i,z',a,c⟩
theorem Cel.fz {H:List MB}{k:Nat}{x:AV}{e:List AV} (h:Cel H k x e) (n:Nat):∃ H',fzA (fzJ (n+1)) x H=some (.sl false e,H')∧(H' = H∨∃ id m,H' = Go.Ev.mark H id m):=by
 obtain⟨h1,h2⟩:=h
 rcases h2 with ⟨t,rfl⟩|⟨i,z,rfl,b⟩
 ·refine⟨H,?_,.inl rfl⟩
  simp only[fzA,fzL_plain _ e H h1]
 ·exact⟨_,fzA_row b rfl h1,.inr ⟨_,_,rfl⟩⟩
inductive Marks:List MB→List MB→Prop where
 | refl (H):Marks H H
 | step {H H'} (id n:Nat):Marks H H'→Marks H (mark H' id n)
theorem Marks.trans {A B C:List MB} (h:Marks A B) (g:Marks B C):Marks A C:=by
 induction g with
 | refl=>exact h
 | step id n _ ih=>exact .step id n ih
theorem Marks.cel {H H':List MB} (m:Marks H H') {k:Nat}{x:AV}{e:List AV} (h:Cel H k x e):Cel H' k x e:=by
 induction m with
 | refl=>exact h
 | step id n _ ih=>exact ih.mark id n
theorem Marks.row {H H':List MB} (m:Marks H H') {i k z:Nat}{els:List AV} (h:getRow H i=some (k,els,z)):∃ z',getRow H' i=some (k,els,z'):=by
 induction m with
 | refl=>exact⟨z,h⟩
 | step id n _ ih=>obtain⟨z',h'⟩:=ih;exact mark_keep h'
theorem fzL_cel (n k:Nat):∀(xs:List AV) (es:List (List AV)) (H:List MB),xs.length=es.length→(∀(i:Nat) (x:AV) (e:List AV),xs[i]?=some x→es[i]?=some e→Cel H k x e) →
  ∃ H',fzL (fzJ (n+1)) xs H=some (es.map (AV.sl false),H')∧Marks H H'
 | [],[],H,_,_=>⟨H,rfl,.refl H⟩
 | [],_::_,_,h,_=>by simp at h
 | _::_,[],_,h,_=>by simp at h
 | x::xs,e::es,H,hl,h=>by
   obtain⟨H1,h1,h2⟩:=(h 0 x e rfl rfl).fz n
   have hm:Marks H H1:=by
    rcases h2 with rfl|⟨id,m,rfl⟩
    ·exact .refl _
    ·exact .step id m (.refl _)
   obtain⟨H2,h3,h4⟩:=fzL_cel n k xs es H1 (by simpa using hl) (fun i x e a b=>hm.cel (h (i+1) x e (by simpa using a) (by simpa using b)))
   refine⟨H2,?_,hm.trans h4⟩
   simp only[fzL,h1,h3,List.map_cons]
def CelS (H:List MB) (k:Nat) (x:AV) (es:List (List AV)):Prop:=
 (es=[]∧∃ t,x=.sl t [])∨∃ id z xs,x=.ms id 1 xs.length 0 xs.length∧getRow H id=some (1,xs,z)∧xs.length=es.length∧∀(i:Nat) (x:AV) (e:List AV),xs[i]?=some x→es[i]?=some e→Cel H k x e
theorem CelS.fz {H0 H:List MB}{k:Nat}{x:AV}{es:List (List AV)} (h:CelS H0 k x es) (hm:Marks H0 H) (n:Nat):∃ H',fzA (fzJ (n+2)) x H=some (.sl false (es.map (AV.sl false)),H')∧Marks H0 H':=by
 rcases h with ⟨rfl,t,rfl⟩|⟨id,z,xs,rfl,h1,h2,h3⟩
 ·exact⟨H,rfl,hm⟩
 ·obtain⟨z',h4⟩:=hm.row h1
  have hm2:Marks H0 (mark H id (0+xs.length)):=.step _ _ hm
  obtain⟨H',h5,h6⟩:=fzL_cel n k xs es (mark H id (0+xs.length)) h2 (fun i x e a b=>hm2.cel (h3 i x e a b))
  refine⟨H',?_,hm2.trans h6⟩
  refine fzA_ms (n:=n+1) (off:=0) (len:=xs.length) h4 rfl (by omega) ?_
  rw[List.drop_zero,List.take_length]
  exact h5
theorem fz_out {H:List MB}{x0 x1 x2:AV}{b:AutoL} (h0:CelS H 2 x0 (b.cl.map fun s=>s.map spanAV)) (h1:CelS H 1 x1 (b.nx.map fun r=>r.map I)) (h2:Cel H 1 x2 (b.ac.map AV.bool)) :
  ∃ H',fz (.agg [x0,x1,x2]) H=some (autoAV b,H'):=by
 obtain⟨H1,a1,m1⟩:=h0.fz (.refl H) 4
 obtain⟨H2,a2,m2⟩:=h1.fz m1 4
 obtain⟨H3,a3,_⟩:=(m2.cel h2).fz 5
 refine⟨H3,?_⟩
 have e0:(b.cl.map fun s=>s.map spanAV).map (AV.sl false)=b.cl.map setAV9:=by rw[List.map_map];rfl
 have e1:(b.nx.map fun r=>r.map I).map (AV.sl false)=b.nx.map rowAV:=by rw[List.map_map];rfl
 rw[e0]at a1
 rw[e1]at a2
 exact fz_agg3 a1 a2 a3
def cellsL (k:Nat):Nat→List Nat→List AV
 | _,[]=>[]
 | b,n::ns=>.ms b k n 0 n::cellsL k (b+1) ns
theorem cellsL_snoc (k:Nat):∀(b:Nat) (ns:List Nat) (n:Nat),cellsL k b (ns++[n])=cellsL k b ns++[.ms (b+ns.length) k n 0 n]
 | b,[],n=>rfl
 | b,m::ns,n=>by rw[List.cons_append,cellsL,cellsL_snoc k (b+1) ns n,cellsL,List.length_cons,show b+1+ns.length=b+(ns.length+1) by omega];rfl
theorem cellsL_len (k:Nat):∀(b:Nat) (ns:List Nat),(cellsL k b ns).length=ns.length
 | _,[]=>rfl
 | b,m::ns=>by rw[cellsL,List.length_cons,cellsL_len k (b+1) ns,List.length_cons]
theorem cellsL_get (k:Nat):∀(b:Nat) (ns:List Nat) (i n:Nat),ns[i]?=some n→(cellsL k b ns)[i]?=some (.ms (b+i) k n 0 n)
 | _,[],i,n,h=>by simp at h
 | b,m::ns,0,n,h=>by simp at h;subst h;rfl
 | b,m::ns,i+1,n,h=>by
   rw[cellsL,List.getElem?_cons_succ,cellsL_get k (b+1) ns i n (by simpa using h),show b+1+i=b+(i+1) by omega]
def rowsC (L:Cls):List MB:=L.map fun s=>.row 2 (s.map spanAV) 0
def rowsN (L:List (List Int)):List MB:=L.map fun r=>.row 1 (r.map I) 0
abbrev E3:AV:=.agg [.sl true [],.sl true [],.sl true []]
theorem app_last {H:List MB}{sT e k by_:Nat}{ze:AV}{ys:List AV} (he:tyElem Tryz.prog sT=some e) (hxT:tyNotInt Tryz.prog sT=true) (hk:tySz Tryz.prog e=some k) (hby:tyBytes Tryz.prog e=some by_) (hze:tyZero Tryz.prog e=some ze) (hzl:ze.cells.length=k) (hk0:0<k)
  (hs:∀ G,srcElems Tryz.prog G e (.sl false ys)=some ys) (hw:ys.all (fun y=>decide (y.cells.length=k)&&y.cells.all AV.ok)=true) (hroom:roomFor (0+ys.length) by_=true) {n:Nat} (hn:H.length=n) :
  evAppend Tryz.prog (H++[.row k [] 0]) sT sT (.ms n k 0 0 0) (.sl false ys)=some (.ms n k ys.length 0 ys.length,H++[.row k ys 0]):=by
 subst hn
 have hr:getRow (H++[.row k [] 0]) H.length=some (k,[],0):=by simp[getRow]
 have:=evAppend_end (n:=0) he hxT hk hby hze hzl hk0 (hs (H++[.row k [] 0])) hw hr rfl (Nat.zero_le _) hroom
 rw[this]
 simp
theorem app_cs {H:List MB}{i n z:Nat}{rs:List AV}{x:AV}{t:Bool} (hi:getRow H i=some (1,rs,z)) (hz:z≤n) (hn:rs.length=n) (hr:n+1≤4000000000) (hx:x.cells=[x]) (ho:x.ok=true) :
  evAppend Tryz.prog H 38 38 (.ms i 1 n 0 n) (.sl t [x])=some (.ms i 1 (n+1) 0 (n+1),H.set i (.row 1 (rs++[x]) z)):=by
 have hs:srcElems Tryz.prog H 23 (.sl t [x])=some [x]:=rfl
 rw[evAppend_end (e:=23) (by kernel_rfl) (by kernel_rfl) (k:=1) (by kernel_rfl) (by_:=24) (by kernel_rfl) (ze:=.sl true []) (by kernel_rfl) rfl (by omega) hs (by simp[hx,ho]) hi hn hz (room_ok (by simp;omega) (by omega))]
 rfl
theorem all_span (s:List (Int×Int)):(s.map spanAV).all (fun y=>decide (y.cells.length=2)&&y.cells.all AV.ok)=true:=by
 simp[AV.cells,AV.ok]
theorem all_int (s:List Int):(s.map I).all (fun y=>decide (y.cells.length=1)&&y.cells.all AV.ok)=true:=by
 simp[AV.cells,AV.ok]
theorem all_bool (s:List Bool):(s.map AV.bool).all (fun y=>decide (y.cells.length=1)&&y.cells.all AV.ok)=true:=by
 simp[AV.cells,AV.ok]
theorem app_lastC {H:List MB}{s:List (Int×Int)} (h:s.length≤4000000000) {n:Nat} (hn:H.length=n) :
  evAppend Tryz.prog (H++[.row 2 [] 0]) 23 23 (.ms n 2 0 0 0) (setAV9 s)=some (.ms n 2 s.length 0 s.length,H++[.row 2 (s.map spanAV) 0]):=by
 have:=app_last (H:=H) (sT:=23) (e:=33) (ys:=s.map spanAV) (by kernel_rfl) (by kernel_rfl) (k:=2) (by kernel_rfl) (by_:=16) (by kernel_rfl) (ze:=.agg [I 0,I 0]) (by kernel_rfl) rfl (by omega) (fun _=>rfl) (all_span s) (room_ok (by simp;omega) (by omega)) hn
 rw[List.length_map]at this
 exact this
theorem app_lastN {H:List MB}{r:List Int} (h:r.length≤4000000000) {n:Nat} (hn:H.length=n) :
  evAppend Tryz.prog (H++[.row 1 [] 0]) 22 22 (.ms n 1 0 0 0) (rowAV r)=some (.ms n 1 r.length 0 r.length,H++[.row 1 (r.map I) 0]):=by
 have:=app_last (H:=H) (sT:=22) (e:=3) (ys:=r.map I) (by kernel_rfl) (by kernel_rfl) (k:=1) (by kernel_rfl) (by_:=8) (by kernel_rfl) (ze:=I 0) (by kernel_rfl) rfl (by omega) (fun _=>rfl) (all_int r) (room_ok (by simp;omega) (by omega)) hn
 rw[List.length_map]at this
 exact this
def CelT (T:List MB) (k:Nat) (x:AV) (e:List AV):Prop:=AV.plainL e=true∧((∃ t,x=.sl t e)∨∃ id,x=.ms (6+id) k e.length 0 e.length∧T[id]?=some (.row k e 0))
theorem CelT.cel {T:List MB}{k:Nat}{x:AV}{e:List AV} (h:CelT T k x e) (x0 x1 x2 x3 x4 x5:MB):Cel (x0::x1::x2::x3::x4::x5::T) k x e:=by
 obtain⟨h1,h2⟩:=h
 refine⟨h1,?_⟩
 rcases h2 with h2|⟨id,a,b⟩
 ·exact .inl h2
 ·refine .inr ⟨6+id,0,a,?_⟩
  unfold getRow
  rw[show 6+id=id+1+1+1+1+1+1 by omega]
  simp only[List.getElem?_cons_succ,b]
structure CellsT (T:List MB) (k:Nat) (xs:List AV) (es:List (List AV)):Prop where
 len:xs.length=es.length
 cel:∀(i:Nat) (x:AV) (e:List AV),xs[i]?=some x→es[i]?=some e→CelT T k x e
theorem CellsT.snoc {T:List MB}{k:Nat}{xs:List AV}{es:List (List AV)} (h:CellsT T k xs es) {x:AV}{e:List AV} (hx:CelT T k x e):CellsT T k (xs++[x]) (es++[e]):=by
 have hl:=h.len
 refine⟨by simp[hl],fun i y f h1 h2=>?_⟩
 rcases Nat.lt_trichotomy i xs.length with g|g|g
 ·rw[List.getElem?_append_left g]at h1
  rw[List.getElem?_append_left (by omega)]at h2
  exact h.cel i y f h1 h2
 ·subst g
  rw[List.getElem?_append_right (by omega)]at h1 h2
  rw[hl]at h1 h2
  simp at h1 h2
  subst h1;subst h2;exact hx
 ·rw[List.getElem?_eq_none (by simp;omega)]at h1;cases h1
theorem CellsT.set {T:List MB}{k:Nat}{xs:List AV}{es:List (List AV)} (h:CellsT T k xs es) {x:AV}{e:List AV} (hx:CelT T k x e) (j:Nat):CellsT T k (xs.set j x) (es.set j e):=by
 have hl:=h.len
 refine⟨by simp[hl],fun i y f h1 h2=>?_⟩
 by_cases g:j=i
 ·subst g
  have hj:=(List.getElem?_eq_some_iff.1 h1).1
  rw[List.length_set]at hj
  rw[List.getElem?_set_self hj]at h1
  rw[List.getElem?_set_self (by omega)]at h2
  cases h1;cases h2;exact hx
 ·rw[List.getElem?_set_ne g]at h1 h2
  exact h.cel i y f h1 h2
theorem CellsT.rep {T:List MB}{k:Nat}{xs:List AV}{es:List (List AV)} (h:CellsT T k xs es) {x:AV}{e:List AV} (hx:CelT T k x e):∀ j,CellsT T k (xs++List.replicate j x) (es++List.replicate j e)
 | 0=>by simpa using h
 | j+1=>by
   have:=(CellsT.rep h hx j).snoc hx
   rw[List.append_assoc,List.append_assoc,← List.replicate_succ',← List.replicate_succ']at this
   exact this
theorem cells_C (cl:Cls) (nx:List (List Int)):CellsT (rowsC cl++rowsN nx) 2 (cellsL 2 6 (cl.map List.length)) (cl.map fun s=>s.map spanAV):=by
 refine⟨by rw[cellsL_len];simp,fun i x e h1 h2=>?_⟩
 rw[List.getElem?_map,Option.map_eq_some_iff]at h2
 obtain⟨s,hs,rfl⟩:=h2
 rw[cellsL_get 2 6 (cl.map List.length) i s.length (by rw[List.getElem?_map,hs];rfl)]at h1
 cases h1
 refine⟨plain_span s,.inr ⟨i,by rw[List.length_map],?_⟩⟩
 have hi:=(List.getElem?_eq_some_iff.1 hs).1
 rw[List.getElem?_append_left (by simp[rowsC];exact hi)]
 simp[rowsC,hs]
theorem cells_N (cl:Cls) (nx:List (List Int)):CellsT (rowsC cl++rowsN nx) 1 (cellsL 1 (6+cl.length) (nx.map List.length)) (nx.map fun r=>r.map I):=by
 refine⟨by rw[cellsL_len];simp,fun i x e h1 h2=>?_⟩
 rw[List.getElem?_map,Option.map_eq_some_iff]at h2
 obtain⟨r,hr,rfl⟩:=h2
 rw[cellsL_get 1 (6+cl.length) (nx.map List.length) i r.length (by rw[List.getElem?_map,hr];rfl)]at h1
 cases h1
 refine⟨plain_ints r,.inr ⟨cl.length+i,by rw[List.length_map,Nat.add_assoc],?_⟩⟩
 rw[List.getElem?_append_right (by simp[rowsC])]
 simp[rowsC,rowsN,hr]
theorem fin_out {xs ys:List AV}{T:List MB}{b:AutoL}{m n a:Nat} (h0:CellsT T 2 xs (b.cl.map fun s=>s.map spanAV)) (h1:CellsT T 1 ys (b.nx.map fun r=>r.map I)) (hm:xs.length=m) (hn:ys.length=n) (ha:b.ac.length=a) (x0 x1 x2:MB) :
  ∃ H',fz (.agg [.ms 3 1 m 0 m,.ms 4 1 n 0 n,.ms 5 1 a 0 a]) (x0::x1::x2::.row 1 xs 0::.row 1 ys 0::.row 1 (b.ac.map AV.bool) 0::T)=some (autoAV b,H'):=by
 subst hm;subst hn;subst ha
 refine fz_out (.inr ⟨3,0,xs,rfl,rfl,h0.len,fun i x e a b=>(h0.cel i x e a b).cel _ _ _ _ _ _⟩) (.inr ⟨4,0,ys,rfl,rfl,h1.len,fun i x e a b=>(h1.cel i x e a b).cel _ _ _ _ _ _⟩) ⟨plain_bools9 _,.inr ⟨5,0,by rw[List.length_map],rfl⟩⟩
theorem fin_nil {xs:List AV}{T:List MB}{cl:Cls}{ac:List Bool}{m a:Nat} (h0:CellsT T 2 xs (cl.map fun s=>s.map spanAV)) (hm:xs.length=m) (ha:ac.length=a) (x0 x1 x2 x4:MB) :
  ∃ H',fz (.agg [.ms 3 1 m 0 m,.sl true [],.ms 5 1 a 0 a]) (x0::x1::x2::.row 1 xs 0::x4::.row 1 (ac.map AV.bool) 0::T)=some (autoAV ⟨cl,[],ac⟩,H'):=by
 subst hm;subst ha
 refine fz_out (b:=⟨cl,[],ac⟩) (.inr ⟨3,0,xs,rfl,rfl,h0.len,fun i x e a b=>(h0.cel i x e a b).cel _ _ _ _ _ _⟩) (.inl ⟨rfl,true,rfl⟩) ⟨plain_bools9 _,.inr ⟨5,0,by rw[List.length_map],rfl⟩⟩
theorem get6 (x0 x1 x2 x3 x4 x5:MB) (T:List MB) (n:Nat):(x0::x1::x2::x3::x4::x5::T)[6+n]?=T[n]?:=by
 rw[show 6+n=n+1+1+1+1+1+1 by omega]
 simp only[List.getElem?_cons_succ]
theorem set6 (x0 x1 x2 x3 x4 x5 v:MB) (T:List MB) (n:Nat):(x0::x1::x2::x3::x4::x5::T).set (6+n) v=x0::x1::x2::x3::x4::x5::T.set n v:=by
 rw[show 6+n=n+1+1+1+1+1+1 by omega]
 simp only[List.set_cons_succ]
theorem set_self {α:Type}{l:List α}{j:Nat}{x:α} (h:l[j]?=some x):l.set j x=l:=by
 apply List.ext_getElem?
 intro i
 by_cases e:j=i
 ·subst e
  rw[List.getElem?_set_self (List.getElem?_eq_some_iff.1 h).1,h]
 ·rw[List.getElem?_set_ne e]
theorem cellsL_set (k:Nat):∀(b:Nat) (ns:List Nat) (j n:Nat),cellsL k b (ns.set j n)=(cellsL k b ns).set j (.ms (b+j) k n 0 n)
 | _,[],j,n=>by simp[cellsL]
 | b,m::ns,0,n=>rfl
 | b,m::ns,j+1,n=>by
   rw[List.set_cons_succ,cellsL,cellsL,cellsL_set k (b+1) ns j n,List.set_cons_succ,show b+1+j=b+(j+1) by omega]
structure SmallA (a:AutoL):Prop where
 cl:a.cl.length≤1000
 set:∀ s∈a.cl,s.length≤64
 nx:a.nx.length≤1000
 ac:a.ac.length≤1000
 row:∀ r∈a.nx,r.length≤1000
theorem sum_le64:∀ {cl:Cls},(∀ s∈cl,s.length≤64)→(cl.map List.length).sum≤64*cl.length
 | [],_=>by simp
 | s::cl,h=>by
   have h1:=h s (by simp)
   have h2:=sum_le64 (cl:=cl) (fun t ht=>h t (by simp[ht]))
   rw[List.map_cons,List.sum_cons,List.length_cons];omega
theorem autoB_of {a:AutoL} (h1:a.cl.length≤1100) (h2:∀ s∈a.cl,s.length≤64) (h3:a.nx.length≤1100) (h4:a.ac.length≤2100) (h5:∀ r∈a.nx,r.length≤1001):AutoB a:=
 ⟨by omega,by have:=sum_le64 h2;omega,by omega,by omega,fun r hr=>by have:=h5 r hr;omega⟩
theorem SmallA.b {a:AutoL} (h:SmallA a):AutoB a:=autoB_of (by have:=h.cl;omega) h.set (by have:=h.nx;omega) (by have:=h.ac;omega) (fun r hr=>by have:=h.row r hr;omega)
theorem mem_set' {α:Type}{l:List α}{j:Nat}{x y:α} (h:y∈l.set j x):y∈l∨y=x:=List.mem_or_eq_of_mem_set h
theorem app_bs {H:List MB}{i:Nat}{ac:List Bool} (hi:getRow H i=some (1,[],0)) (hr:ac.length≤4000000000) :
  evAppend Tryz.prog H 40 40 (.ms i 1 0 0 0) (.sl false (ac.map AV.bool))=some (.ms i 1 ac.length 0 ac.length,H.set i (.row 1 (ac.map AV.bool) 0)):=by
 have:=evAppend_end (P:=Tryz.prog) (H:=H) (sT:=40) (xT:=40) (e:=4) (n:=0) (x:=.sl false (ac.map AV.bool)) (ys:=ac.map AV.bool) (by kernel_rfl) (by kernel_rfl) (k:=1) (by kernel_rfl) (by_:=1) (by kernel_rfl) (ze:=.bool false) (by kernel_rfl) rfl (by omega) rfl (all_bool ac) hi rfl (Nat.zero_le _) (room_ok (by simp;omega) (by omega))
 rw[this]
 simp
end Go.Ev
namespace Go.Ev
attribute [local go_sem] retE_norm retE_ret bndO bnd evEq eqCells not_false_eq_true not_true_eq_false toList_some Array.size_empty List.length_append tySzE List.head?_drop Nat.mul_one sameAt_zero sameAt_two sameAt_three sameAt_four sameAt_five room_ok
section
open Go.Proofs Go.RowKit Go.IntWalk
set_option maxRecDepth 100000
set_option maxHeartbeats 4000000
theorem g21 (a:AutoL) (hsm:SmallA a) (hn:0<a.nx.length) (hm:0<a.cl.length) (hr:∀ r∈a.nx,r≠[]) (hc:∀ s∈a.cl,s≠[]) (how at_ by_:Int) (h1:In64 how) (h2:In64 at_) (h3:In64 by_) :
  ∃ r,(∃ b,AutoB b∧r=autoAV b)∧∀ H,call Tryz.prog pol1 21 [autoAV a,I how,I at_,I by_] H=some (r,H):=by
 have hb:=hsm.b
 have hpl:=plain_auto a
 have hA:=f12 at_ 1000 h2 (by omega)
 have hH:=f12 how 9 h1 (by omega)
 have hB:=f12 by_ 2 h3 (by omega)
 have bA:=around_lt (n:=at_) (m:=1000) (by omega)
 have bH:=around_lt (n:=how) (m:=9) (by omega)
 have bB:=around_lt (n:=by_) (m:=2) (by omega)
 generalize aroundI at_ 1000=q at *
 generalize aroundI how 9=w at *
 generalize aroundI by_ 2=u at *
 obtain⟨cl,nx,ac⟩:=a
 have b1:=hb.cl
 have b2:=hb.nx
 have b3:=hb.ac
 have b4:=hb.sum
 have b5:=hb.row
 obtain⟨m1,m2,m3,m4,m5⟩:=hsm
 simp only at hn hm hr hc b1 b2 b3 b4 b5 m1 m2 m3 m4 m5
 refine call_runA Tryz.func21 rfl rfl rfl rfl rfl rfl (fun _=>rfl) (by simp[AV.plainL,AV.plain,plain_cls,plain_rows,plain_bools9]) (fun r h=>by obtain⟨b,_,rfl⟩:=h;exact plain_auto b) ?_
 simp +contextual (disch:=omega) only[Tryz.f21,dd21,go_sem,simprocAttr,mu21,↓wrap_up,↓wrap_down,↓wrap_pred,↓wrap_sub_nat]
 refine W_count (M:=(mskOf (pol1.mask 21) (pol1.gc 21) (pol1.acts 21) 0 3)) rfl cl.length (fun i=>(⟨191,[(10,I i),(9,.rf 2 1 0 0),(8,.rf 1 1 0 0),(4,.rf 0 1 0 0),(3,I by_),(2,I at_),(1,I how)],.row 3 [autoAV ⟨cl,nx,ac⟩] 0::.row 3 [E3] 0::.row 3 [.agg [.ms 3 1 i 0 i,.ms 4 1 0 0 0,.ms 5 1 0 0 0]] 0::.row 1 (cellsL 2 6 ((cl.take i).map List.length)) 0::.row 1 [] 0::.row 1 [] 0::rowsC (cl.take i)⟩:St)) (fun i=>True) ?_ ?_ trivial _ ?_
 ·intro i hi _
  obtain⟨s,hsi⟩:∃ s,cl[i]?=some s:=⟨_,List.getElem?_eq_getElem hi⟩
  have hsi':(cl.map setAV9)[i]?=some (setAV9 s):=by simp[hsi]
  have hRl:(rowsC (cl.take i)).length=i:=by simp[rowsC];omega
  have hsl:s.length≤1000000:=by
   have:s.length≤(cl.map List.length).sum:=le_sum_mem (List.mem_map.2 ⟨s,List.mem_of_getElem? hsi,rfl⟩)
   omega
  have e1:rowsC (cl.take (i+1))=rowsC (cl.take i)++[.row 2 (s.map spanAV) 0]:=by
   rw[rowsC,List.take_add_one,hsi,Option.toList_some,List.map_append];rfl
  have e2:(cl.take (i+1)).map List.length=(cl.take i).map List.length++[s.length]:=by
   rw[List.take_add_one,hsi,Option.toList_some,List.map_append];rfl
  have hll:((cl.take i).map List.length).length=i:=by simp;omega
  rw[e1,e2,cellsL_snoc,hll]
  have hcl:(cellsL 2 6 ((cl.take i).map List.length)).length=i:=by rw[cellsL_len];exact hll
  generalize rowsC (cl.take i)=R at *
  generalize cellsL 2 6 ((cl.take i).map List.length)=C at *
  have hsz:i+1+1+1+1+1+1=6+i:=by omega
  have a1:=fun(x0 x1 x2 x3 x4 x5:MB)=>app_lastC (H:=x0::x1::x2::x3::x4::x5::R) (s:=s) (by omega) (n:=i+1+1+1+1+1+1) (by simp[hRl])
  have a2:=fun(x0 x1 x2 x4 x5:MB) (R:List MB) (t:Bool)=>app_cs (H:=x0::x1::x2::.row 1 C 0::x4::x5::R) (i:=3) (n:=i) (x:=.ms (i+1+1+1+1+1+1) 2 s.length 0 s.length) (t:=t) rfl (Nat.zero_le _) hcl (by omega) rfl rfl
  simp only[List.cons_append,set_3]at a1 a2
  rw[← hsz]
  simp +contextual (disch:=omega) only[Tryz.f21,dd21,go_sem,simprocAttr,mu21,↓wrap_up,↓wrap_down,↓wrap_pred,↓wrap_sub_nat,hsi',hRl,a1,a2]
  repeat' (first|intro _|apply And.intro|(unfold dOk;kernel_rfl)|exact St.beq_refl _|(show altO _ _ _ _=true;kernel_rfl)|(show (_||_)=true;kernel_rfl)|(show (_&&_)=true;kernel_rfl))
  rfl
 ·intro _
  rw[List.take_length]
  have hRl:(rowsC cl).length=cl.length:=by simp[rowsC]
  have hCl:(cellsL 2 6 (cl.map List.length)).length=cl.length:=by rw[cellsL_len];simp
  simp +contextual (disch:=omega) only[Tryz.f21,dd21,go_sem,simprocAttr,mu21,↓wrap_up,↓wrap_down,↓wrap_pred,↓wrap_sub_nat]
  refine W_count (M:=(mskOf (pol1.mask 21) (pol1.gc 21) (pol1.acts 21) 0 8)) rfl nx.length (fun i=>(⟨191,[(12,I i),(9,.rf 2 1 0 0),(8,.rf 1 1 0 0),(4,.rf 0 1 0 0),(3,I by_),(2,I at_),(1,I how)],.row 3 [autoAV ⟨cl,nx,ac⟩] 0::.row 3 [E3] 0::.row 3 [.agg [.ms 3 1 cl.length 0 cl.length,.ms 4 1 i 0 i,.ms 5 1 0 0 0]] 0::.row 1 (cellsL 2 6 (cl.map List.length)) 0::.row 1 (cellsL 1 (6+cl.length) ((nx.take i).map List.length)) 0::.row 1 [] 0::(rowsC cl++rowsN (nx.take i))⟩:St)) (fun i=>True) ?_ ?_ trivial _ ?_
  ·intro i hi _
   obtain⟨r,hri⟩:∃ r,nx[i]?=some r:=⟨_,List.getElem?_eq_getElem hi⟩
   have hri':(nx.map rowAV)[i]?=some (rowAV r):=by simp[hri]
   have hrl:=b5 r (List.mem_of_getElem? hri)
   have hNl:(rowsN (nx.take i)).length=i:=by simp[rowsN];omega
   have e1:rowsN (nx.take (i+1))=rowsN (nx.take i)++[.row 1 (r.map I) 0]:=by
    rw[rowsN,List.take_add_one,hri,Option.toList_some,List.map_append];rfl
   have e2:(nx.take (i+1)).map List.length=(nx.take i).map List.length++[r.length]:=by
    rw[List.take_add_one,hri,Option.toList_some,List.map_append];rfl
   have hll:((nx.take i).map List.length).length=i:=by simp;omega
   rw[e1,e2,cellsL_snoc,hll]
   have hnl:(cellsL 1 (6+cl.length) ((nx.take i).map List.length)).length=i:=by rw[cellsL_len];exact hll
   generalize rowsN (nx.take i)=N at *
   generalize cellsL 1 (6+cl.length) ((nx.take i).map List.length)=D at *
   generalize cellsL 2 6 (cl.map List.length)=C at *
   generalize rowsC cl=R at *
   have hsz:cl.length+i+1+1+1+1+1+1=6+cl.length+i:=by omega
   have a1:=fun(x0 x1 x2 x3 x4 x5:MB)=>app_lastN (H:=x0::x1::x2::x3::x4::x5::(R++N)) (r:=r) (by omega) (n:=cl.length+i+1+1+1+1+1+1) (by simp[hRl,hNl])
   have a2:=fun(x0 x1 x2 x3 x5:MB) (R:List MB) (t:Bool)=>app_s (H:=x0::x1::x2::x3::.row 1 D 0::x5::R) (i:=4) (n:=i) (x:=.ms (cl.length+i+1+1+1+1+1+1) 1 r.length 0 r.length) (t:=t) rfl (Nat.zero_le _) hnl (by omega) rfl rfl
   simp only[List.cons_append,List.append_assoc,set_4,List.set_cons_zero]at a1 a2
   rw[← hsz]
   simp +contextual (disch:=omega) only[Tryz.f21,dd21,go_sem,simprocAttr,mu21,↓wrap_up,↓wrap_down,↓wrap_pred,↓wrap_sub_nat,hri',hRl,hNl,List.append_assoc,a1,a2]
   repeat' (first|intro _|apply And.intro|(unfold dOk;kernel_rfl)|exact St.beq_refl _|(show altO _ _ _ _=true;kernel_rfl)|(show (_||_)=true;kernel_rfl)|(show (_&&_)=true;kernel_rfl))
   rfl
  ·intro _
   rw[List.take_length]
   have hNl:(rowsN nx).length=nx.length:=by simp[rowsN]
   have hDl:(cellsL 1 (6+cl.length) (nx.map List.length)).length=nx.length:=by rw[cellsL_len];simp
   have hCg:∀(j:Nat) (s:List (Int×Int)),cl[j]?=some s→(cellsL 2 6 (cl.map List.length))[j]?=some (.ms (6+j) 2 s.length 0 s.length):=fun j s h=>cellsL_get 2 6 _ j _ (by rw[List.getElem?_map,h];rfl)
   have hDg:∀(j:Nat) (r:List Int),nx[j]?=some r→(cellsL 1 (6+cl.length) (nx.map List.length))[j]?=some (.ms (6+cl.length+j) 1 r.length 0 r.length):=fun j s h=>cellsL_get 1 (6+cl.length) _ j _ (by rw[List.getElem?_map,h];rfl)
   have a1:=fun(x0 x1 x2 x3 x4:MB) (R:List MB)=>app_bs (H:=x0::x1::x2::x3::x4::.row 1 [] 0::R) (i:=5) (ac:=ac) rfl (by omega)
   simp only[List.set_cons_succ,List.set_cons_zero]at a1
   obtain⟨qn,rfl⟩:∃ qn:Nat,q=qn:=⟨q.toNat,by omega⟩
   have hqm:(qn:Int).tmod (cl.length:Int)=((qn % cl.length:Nat):Int):=rfl
   have hqn:(qn:Int).tmod (nx.length:Int)=((qn % nx.length:Nat):Int):=rfl
   have hjm:=Nat.mod_lt qn hm
   have hjn:=Nat.mod_lt qn hn
   generalize qn % cl.length=jm at *
   generalize qn % nx.length=jn at *
   have hn0:(nx.length:Int)≠0:=by omega
   have hm0:(cl.length:Int)≠0:=by omega
   generalize hC:cellsL 2 6 (cl.map List.length)=C at *
   generalize hD:cellsL 1 (6+cl.length) (nx.map List.length)=D at *
   generalize hRR:rowsC cl=R at *
   generalize hNN:rowsN nx=N at *
   have hw:w=0∨w=1∨w=2∨w=3∨w=4∨w=5∨w=6∨w=7∨w=8:=by omega
   have hcC:=cells_C cl nx
   have hcN:=cells_N cl nx
   rw[hRR,hNN,hC]at hcC
   rw[hRR,hNN,hD]at hcN
   rcases hw with rfl|rfl|rfl|rfl|rfl|rfl|rfl|rfl|rfl
   ·obtain⟨r,hri⟩:∃ r,nx[jn]?=some r:=⟨_,List.getElem?_eq_getElem hjn⟩
    have hrl:=b5 r (List.mem_of_getElem? hri)
    have hr0:=hr r (List.mem_of_getElem? hri)
    cases r with
    | nil=>exact absurd rfl hr0
    | cons z r=>
      have hd:=hDg jn (z::r) hri
      have hg:∀ x0 x1 x2 x3 x4 x5:MB,(x0::x1::x2::x3::x4::x5::(R++N))[6+cl.length+jn]?=some (.row 1 ((z::r).map I) 0):=fun x0 x1 x2 x3 x4 x5=>by
       rw[Nat.add_assoc,get6,← hRR,← hNN,List.getElem?_append_right (by simp[rowsC])]
       simp[rowsC,rowsN,hri]
      have hs:∀(x0 x1 x2 x3 x4 x5:MB),(x0::x1::x2::x3::x4::x5::(R++N)).set (6+cl.length+jn) (.row 1 (I by_::r.map I) 0)=x0::x1::x2::x3::x4::x5::(R++rowsN (nx.set jn (by_::r))):=fun x0 x1 x2 x3 x4 x5=>by
       rw[Nat.add_assoc,set6,← hRR,← hNN,List.set_append_right _ _ (by simp[rowsC])]
       simp[rowsC,rowsN,List.map_set]
      simp only[List.map_cons,List.length_cons]at hg hd
      simp +contextual (disch:=omega) only[Tryz.f21,dd21,go_sem,simprocAttr,mu21,↓wrap_up,↓wrap_down,↓wrap_pred,↓wrap_sub_nat,hA,hH,a1,hqn,hn0,hd,hDl,hCl,hg,hs]
      refine⟨by unfold dOk;kernel_rfl,_,⟨⟨cl,nx.set jn (by_::r),ac⟩,autoB_of (by simp only;omega) m2 (by simp only[List.length_set];omega) (by simp only;omega) (fun x hx=>?_),rfl⟩,?_⟩
      ·rcases mem_set' hx with h|h
       ·have:=m5 x h;omega
       ·subst h;have:=m5 _ (List.mem_of_getElem? hri);simp only[List.length_cons]at this ⊢;omega
      ·have e1:(nx.set jn (by_::r)).map List.length=nx.map List.length:=by
        rw[List.map_set]
        exact set_self (by rw[List.getElem?_map,hri];rfl)
       have k1:=cells_C cl (nx.set jn (by_::r))
       have k2:=cells_N cl (nx.set jn (by_::r))
       rw[hRR,hC]at k1
       rw[hRR,e1,hD]at k2
       exact fin_out (b:=⟨cl,nx.set jn (by_::r),ac⟩) k1 k2 hCl hDl rfl _ _ _
   ·have a2:=fun(x0 x1 x2 x3 x4:MB) (R:List MB) (t:Bool)=>app_b (H:=x0::x1::x2::x3::x4::.row 1 (ac.map AV.bool) 0::R) (i:=5) (n:=ac.length) (x:=true) (t:=t) rfl (Nat.zero_le _) rfl (by omega)
    simp only[List.set_cons_succ,List.set_cons_zero]at a2
    simp +contextual (disch:=omega) only[Tryz.f21,dd21,go_sem,simprocAttr,mu21,↓wrap_up,↓wrap_down,↓wrap_pred,↓wrap_sub_nat,hA,hH,a1,a2]
    refine⟨_,⟨⟨cl,nx,ac++[true]⟩,autoB_of (by simp only;omega) m2 (by simp only;omega) (by simp;omega) (fun x hx=>by have:=m5 x hx;omega),rfl⟩,?_⟩
    exact fin_out (b:=⟨cl,nx,ac++[true]⟩) hcC hcN hCl hDl (by simp) _ _ _
   ·have a2:=fun(x0 x1 x2 x4 x5:MB) (R:List MB) (t u:Bool)=>app_cs (H:=x0::x1::x2::.row 1 C 0::x4::x5::R) (i:=3) (n:=cl.length) (x:=.sl u [.agg [I by_,I by_]]) (t:=t) rfl (Nat.zero_le _) hCl (by omega) rfl rfl
    simp only[set_3]at a2
    simp +contextual (disch:=omega) only[Tryz.f21,dd21,go_sem,simprocAttr,mu21,↓wrap_up,↓wrap_down,↓wrap_pred,↓wrap_sub_nat,hA,hH,a1,a2]
    refine⟨_,⟨⟨cl++[[(by_,by_)]],nx,ac⟩,autoB_of (by simp;omega) (fun x hx=>?_) (by simp only;omega) (by simp only;omega) (fun x hx=>by have:=m5 x hx;omega),rfl⟩,?_⟩
    ·rcases List.mem_append.1 hx with h|h
     ·exact m2 x h
     ·simp at h;subst h;simp
    ·refine fin_out (b:=⟨cl++[[(by_,by_)]],nx,ac⟩) ?_ hcN (by simp[hCl]) hDl rfl _ _ _
     have:=hcC.snoc (x:=.sl true [.agg [I by_,I by_]]) (e:=[.agg [I by_,I by_]]) ⟨rfl,.inl ⟨true,rfl⟩⟩
     rw[List.map_append]
     exact this
   ·obtain⟨s,hsi⟩:∃ s,cl[jm]?=some s:=⟨_,List.getElem?_eq_getElem hjm⟩
    have hs0:=hc s (List.mem_of_getElem? hsi)
    cases s with
    | nil=>exact absurd rfl hs0
    | cons p s=>
      have hd:=hCg jm (p::s) hsi
      have hg:∀ x0 x1 x2 x3 x4 x5:MB,(x0::x1::x2::x3::x4::x5::(R++N))[6+jm]?=some (.row 2 ((p::s).map spanAV) 0):=fun x0 x1 x2 x3 x4 x5=>by
       rw[get6,← hRR,← hNN,List.getElem?_append_left (by simp[rowsC];omega)]
       simp[rowsC,hsi]
      have hs:∀(x0 x1 x2 x3 x4 x5:MB),(x0::x1::x2::x3::x4::x5::(R++N)).set (6+jm) (.row 2 (.agg [I by_,I p.2]::s.map spanAV) 0)=x0::x1::x2::x3::x4::x5::(rowsC (cl.set jm ((by_,p.2)::s))++N):=fun x0 x1 x2 x3 x4 x5=>by
       rw[set6,← hRR,← hNN,List.set_append_left _ _ (by simp[rowsC];omega)]
       simp[rowsC,List.map_set]
      simp only[List.map_cons,List.length_cons]at hg hd
      simp +contextual (disch:=omega) only[Tryz.f21,dd21,go_sem,simprocAttr,mu21,↓wrap_up,↓wrap_down,↓wrap_pred,↓wrap_sub_nat,hA,hH,a1,hqm,hm0,hd,hDl,hCl,hg,hs,spanAV]
      refine⟨by unfold dOk;kernel_rfl,_,⟨⟨cl.set jm ((by_,p.2)::s),nx,ac⟩,autoB_of (by simp only[List.length_set];omega) (fun x hx=>?_) (by simp only;omega) (by simp only;omega) (fun x hx=>by have:=m5 x hx;omega),rfl⟩,?_⟩
      ·rcases mem_set' hx with h|h
       ·exact m2 x h
       ·subst h;have:=m2 _ (List.mem_of_getElem? hsi);simp only[List.length_cons]at this ⊢;omega
      ·have e1:(cl.set jm ((by_,p.2)::s)).map List.length=cl.map List.length:=by
        rw[List.map_set]
        exact set_self (by rw[List.getElem?_map,hsi];rfl)
       have k1:=cells_C (cl.set jm ((by_,p.2)::s)) nx
       have k2:=cells_N (cl.set jm ((by_,p.2)::s)) nx
       rw[hNN,e1,hC]at k1
       rw[hNN,List.length_set,hD]at k2
       exact fin_out (b:=⟨cl.set jm ((by_,p.2)::s),nx,ac⟩) k1 k2 hCl hDl rfl _ _ _
   ·obtain⟨s,hsi⟩:∃ s,cl[jm]?=some s:=⟨_,List.getElem?_eq_getElem hjm⟩
    have hd:=hCg jm s hsi
    simp +contextual (disch:=omega) only[Tryz.f21,dd21,go_sem,simprocAttr,mu21,↓wrap_up,↓wrap_down,↓wrap_pred,↓wrap_sub_nat,hA,hH,a1,hqm,hm0,hDl,hCl,hd]
    refine⟨by unfold dOk;kernel_rfl,_,⟨⟨cl.set jm [],nx,ac⟩,autoB_of (by simp only[List.length_set];omega) (fun x hx=>?_) (by simp only;omega) (by simp only;omega) (fun x hx=>by have:=m5 x hx;omega),rfl⟩,?_⟩
    ·rcases mem_set' hx with h|h
     ·exact m2 x h
     ·subst h;simp
    ·refine fin_out (b:=⟨cl.set jm [],nx,ac⟩) ?_ hcN (by simp[hCl]) hDl rfl _ _ _
     have:=hcC.set (x:=.sl true []) (e:=[]) ⟨rfl,.inl ⟨true,rfl⟩⟩ jm
     rw[List.map_set]
     exact this
   ·obtain⟨r,hri⟩:∃ r,nx[jn]?=some r:=⟨_,List.getElem?_eq_getElem hjn⟩
    have hrl:=b5 r (List.mem_of_getElem? hri)
    have hd:=hDg jn r hri
    have hg:∀ x0 x1 x2 x3 x4 x5:MB,(x0::x1::x2::x3::x4::x5::(R++N))[6+cl.length+jn]?=some (.row 1 (r.map I) 0):=fun x0 x1 x2 x3 x4 x5=>by
     rw[Nat.add_assoc,get6,← hRR,← hNN,List.getElem?_append_right (by simp[rowsC])]
     simp[rowsC,rowsN,hri]
    have hs:∀(x0 x1 x2 x3 x4 x5:MB),(x0::x1::x2::x3::x4::x5::(R++N)).set (6+cl.length+jn) (.row 1 ((r++[0]).map I) 0)=x0::x1::x2::x3::x4::x5::(R++rowsN (nx.set jn (r++[0]))):=fun x0 x1 x2 x3 x4 x5=>by
     rw[Nat.add_assoc,set6,← hRR,← hNN,List.set_append_right _ _ (by simp[rowsC])]
     simp[rowsC,rowsN,List.map_set]
    have a2:=fun(x0 x1 x2 x3 x4 x5:MB) (t:Bool)=>app_i (H:=x0::x1::x2::x3::x4::x5::(R++N)) (i:=6+cl.length+jn) (n:=r.length) (x:=0) (t:=t) (by unfold getRow;rw[hg]) (Nat.zero_le _) rfl (by omega)
    simp only[hs]at a2
    simp +contextual (disch:=omega) only[Tryz.f21,dd21,go_sem,simprocAttr,mu21,↓wrap_up,↓wrap_down,↓wrap_pred,↓wrap_sub_nat,hA,hH,a1,hqn,hn0,hd,hDl,hCl,a2]
    repeat' (first|intro _|apply And.intro|(unfold dOk;kernel_rfl)|exact St.beq_refl _|(show altO _ _ _ _=true;kernel_rfl)|(show (_||_)=true;kernel_rfl)|(show (_&&_)=true;kernel_rfl))
    refine⟨_,⟨⟨cl,nx.set jn (r++[0]),ac⟩,autoB_of (by simp only;omega) m2 (by simp only[List.length_set];omega) (by simp only;omega) (fun x hx=>?_),rfl⟩,?_⟩
    ·rcases mem_set' hx with h|h
     ·have:=m5 x h;omega
     ·subst h;have:=m5 _ (List.mem_of_getElem? hri);simp;omega
    ·have e1:(nx.set jn (r++[0])).map List.length=(nx.map List.length).set jn (r.length+1):=by
      rw[List.map_set];simp
     have k1:=cells_C cl (nx.set jn (r++[0]))
     have k2:=cells_N cl (nx.set jn (r++[0]))
     rw[hRR,hC]at k1
     rw[hRR,e1,cellsL_set,hD]at k2
     exact fin_out (b:=⟨cl,nx.set jn (r++[0]),ac⟩) k1 k2 hCl (by simp[hDl]) rfl _ _ _
   ·obtain⟨s,hsi⟩:∃ s,cl[jm]?=some s:=⟨_,List.getElem?_eq_getElem hjm⟩
    obtain⟨s0,hs0⟩:∃ s,cl[0]?=some s:=⟨_,List.getElem?_eq_getElem hm⟩
    have hd:=hCg jm s hsi
    have hd0:=hCg 0 s0 hs0
    have hd1:(C.set 0 (.ms (6+jm) 2 s.length 0 s.length))[jm]?=some (.ms (6+jm) 2 s.length 0 s.length):=by
     by_cases e:jm=0
     ·subst e;rw[List.getElem?_set_self (by omega)]
     ·rw[List.getElem?_set_ne (by omega),hd]
    have hl1:(C.set 0 (.ms (6+jm) 2 s.length 0 s.length)).length=cl.length:=by rw[List.length_set];exact hCl
    simp +contextual (disch:=omega) only[Tryz.f21,dd21,go_sem,simprocAttr,mu21,↓wrap_up,↓wrap_down,↓wrap_pred,↓wrap_sub_nat,hA,hH,a1,hqm,hm0,hDl,hCl,hd,hd0,hd1,hl1]
    repeat' (first|intro _|apply And.intro|(unfold dOk;kernel_rfl)|exact St.beq_refl _|(show altO _ _ _ _=true;kernel_rfl)|(show (_||_)=true;kernel_rfl)|(show (_&&_)=true;kernel_rfl))
    refine⟨_,⟨⟨(cl.set 0 s).set jm s0,nx,ac⟩,autoB_of (by simp only[List.length_set];omega) (fun x hx=>?_) (by simp only;omega) (by simp only;omega) (fun x hx=>by have:=m5 x hx;omega),rfl⟩,?_⟩
    ·rcases mem_set' hx with h|h
     ·rcases mem_set' h with h|h
      ·exact m2 x h
      ·subst h;exact m2 _ (List.mem_of_getElem? hsi)
     ·subst h;exact m2 _ (List.mem_of_getElem? hs0)
    ·refine fin_out (b:=⟨(cl.set 0 s).set jm s0,nx,ac⟩) ?_ hcN (by simp[hCl]) hDl rfl _ _ _
     have c1:=hcC.cel jm _ _ hd (by rw[List.getElem?_map,hsi];rfl)
     have c0:=hcC.cel 0 _ _ hd0 (by rw[List.getElem?_map,hs0];rfl)
     have:=(hcC.set c1 0).set c0 jm
     rw[List.map_set,List.map_set]
     exact this
   ·obtain⟨r0,hr0⟩:∃ r,nx[0]?=some r:=⟨_,List.getElem?_eq_getElem hn⟩
    have hd0:=hDg 0 r0 hr0
    rw[Nat.add_zero]at hd0
    have hU:IntKind.i64.wrap (1024+u)=1024+u:=by rw[i64_in]<;>omega
    obtain⟨un,rfl⟩:∃ un:Nat,u=un:=⟨u.toNat,by omega⟩
    simp +contextual (disch:=omega) only[Tryz.f21,dd21,go_sem,simprocAttr,mu21,↓wrap_up,↓wrap_down,↓wrap_pred,↓wrap_sub_nat,hA,hH,a1]
    generalize hX:AV.ms (6+cl.length) 1 r0.length 0 r0.length=X at *
    refine W_count (M:=(mskOf (pol1.mask 21) (pol1.gc 21) (pol1.acts 21) 0 31)) rfl (1024+un-nx.length) (fun j=>(⟨191,[(9,.rf 2 1 0 0),(8,.rf 1 1 0 0),(3,I by_)],.row 3 [autoAV ⟨cl,nx,ac⟩] 0::.row 3 [E3] 0::.row 3 [.agg [.ms 3 1 cl.length 0 cl.length,.ms 4 1 (nx.length+j) 0 (nx.length+j),.ms 5 1 (ac.length+j) 0 (ac.length+j)]] 0::.row 1 C 0::.row 1 (D++List.replicate j X) 0::.row 1 ((ac++List.replicate j false).map AV.bool) 0::(R++N)⟩:St)) (fun i=>True) ?_ ?_ trivial _ ?_
    ·intro j hj _
     have g0:(D++List.replicate j X)[0]?=some X:=by rw[List.getElem?_append_left (by omega)];exact hd0
     have gl:(D++List.replicate j X).length=nx.length+j:=by simp[hDl]
     have gb:(ac++List.replicate j false).length=ac.length+j:=by simp
     rw[List.replicate_succ',List.replicate_succ',← List.append_assoc,← List.append_assoc]
     generalize D++List.replicate j X=D1 at *
     generalize ac++List.replicate j false=A1 at *
     subst hX
     have a2:=fun(x0 x1 x2 x3 x5:MB) (R:List MB) (t:Bool)=>app_s (H:=x0::x1::x2::x3::.row 1 D1 0::x5::R) (i:=4) (n:=nx.length+j) (x:=.ms (6+cl.length) 1 r0.length 0 r0.length) (t:=t) rfl (Nat.zero_le _) gl (by omega) rfl rfl
     have a3:=fun(x0 x1 x2 x3 x4:MB) (R:List MB) (t:Bool)=>app_b (H:=x0::x1::x2::x3::x4::.row 1 (A1.map AV.bool) 0::R) (i:=5) (n:=ac.length+j) (x:=false) (t:=t) rfl (Nat.zero_le _) gb (by omega)
     simp only[List.set_cons_succ,List.set_cons_zero]at a2 a3
     simp +contextual (disch:=omega) only[Tryz.f21,dd21,go_sem,simprocAttr,mu21,↓wrap_up,↓wrap_down,↓wrap_pred,↓wrap_sub_nat,hB,hU,g0,gl,a2,a3]
     repeat' (first|intro _|apply And.intro|(unfold dOk;kernel_rfl)|exact St.beq_refl _|(show altO _ _ _ _=true;kernel_rfl)|(show (_||_)=true;kernel_rfl)|(show (_&&_)=true;kernel_rfl))
     rfl
    ·intro _
     simp +contextual (disch:=omega) only[Tryz.f21,dd21,go_sem,simprocAttr,mu21,↓wrap_up,↓wrap_down,↓wrap_pred,↓wrap_sub_nat,hB,hU]
     refine⟨by unfold dOk;kernel_rfl,_,⟨⟨cl,nx++List.replicate (1024+un-nx.length) r0,ac++List.replicate (1024+un-nx.length) false⟩,autoB_of (by simp only;omega) m2 (by simp;omega) (by simp;omega) (fun x hx=>?_),rfl⟩,?_⟩
     ·rcases List.mem_append.1 hx with h|h
      ·have:=m5 x h;omega
      ·rw[List.eq_of_mem_replicate h]
       have:=m5 _ (List.mem_of_getElem? hr0);omega
     ·have c0:=hcN.cel 0 _ _ hd0 (by rw[List.getElem?_map,hr0];rfl)
      have k2:=hcN.rep c0 (1024+un-nx.length)
      refine fin_out (b:=⟨cl,nx++List.replicate (1024+un-nx.length) r0,ac++List.replicate (1024+un-nx.length) false⟩) hcC ?_ hCl (by simp[hDl]) (by simp) _ _ _
      rw[List.map_append,List.map_replicate]
      exact k2
    ·rw[List.replicate_zero,List.replicate_zero,List.append_nil,List.append_nil]
     rfl
   ·simp +contextual (disch:=omega) only[Tryz.f21,dd21,go_sem,simprocAttr,mu21,↓wrap_up,↓wrap_down,↓wrap_pred,↓wrap_sub_nat,hA,hH,a1]
    refine⟨_,⟨⟨cl,[],ac⟩,autoB_of (by simp only;omega) m2 (by simp) (by simp only;omega) (fun x hx=>by simp at hx),rfl⟩,?_⟩
    exact fin_nil hcC hCl rfl _ _ _ _
  ·rw[show rowsN (nx.take 0)=[] from rfl,List.append_nil]
   rfl
 ·rfl
end
def addRow (x:Int):List Int→List Int→List Int
 | a,[]=>a
 | a,t::row=>addRow x (a.set t.toNat (a[t.toNat]?.getD 0+x)) row
theorem addRow_length (x:Int):∀(row a:List Int),(addRow x a row).length=a.length
 | [],_=>rfl
 | t::row,a=>by rw[addRow,addRow_length x row,List.length_set]
theorem addRow_get (x:Int) (u:Nat):∀(row a:List Int),(∀ t∈row,0≤t∧t<a.length)→u<a.length →
  (addRow x a row)[u]?.getD 0=a[u]?.getD 0+x*(row.count (u:Int):Nat)
 | [],a,_,_=>by simp[addRow]
 | t::row,a,h,hu=>by
   have ht:=h t (by simp)
   rw[addRow,addRow_get x u row _ (fun s hs=>by rw[List.length_set];exact h s (by simp[hs])) (by rw[List.length_set];exact hu)]
   rw[List.count_cons]
   by_cases e:t=(u:Int)
   ·subst e
    have:((u:Int)==(u:Int))=true:=by simp
    simp only[Int.toNat_natCast,List.getElem?_set_self hu,Option.getD_some,this,if_true]
    rw[Int.natCast_add,Int.mul_add];simp;omega
   ·have h1:t.toNat≠u:=by omega
    have h2:(t==(u:Int))=false:=by simpa using e
    rw[List.getElem?_set_ne h1];simp[h2]
def roundC (cnt:List Int):List (List Int)→Nat→List Int→List Int
 | [],_,a=>a
 | row::rows,k,a=>roundC cnt rows (k+1) (addRow (cnt[k]?.getD 0) a row)
theorem roundC_length (cnt:List Int):∀(rows:List (List Int)) (k:Nat) (a:List Int),(roundC cnt rows k a).length=a.length
 | [],_,_=>rfl
 | row::rows,k,a=>by rw[roundC,roundC_length cnt rows,addRow_length]
def flow (cnt:List Int) (u:Nat):List (List Int)→Nat→Int
 | [],_=>0
 | row::rows,k=>cnt[k]?.getD 0*(row.count (u:Int):Nat)+flow cnt u rows (k+1)
theorem roundC_get (cnt:List Int) (u:Nat):∀(rows:List (List Int)) (k:Nat) (a:List Int),
  (∀ row∈rows,∀ t∈row,0≤t∧t<a.length)→u<a.length →
  (roundC cnt rows k a)[u]?.getD 0=a[u]?.getD 0+flow cnt u rows k
 | [],_,a,_,_=>by simp[roundC,flow]
 | row::rows,k,a,h,hu=>by
   rw[roundC,roundC_get cnt u rows _ _ (fun r hr t ht=>by rw[addRow_length];exact h r (by simp[hr]) t ht) (by rw[addRow_length];exact hu),
    addRow_get _ u row a (h row (by simp)) hu,flow]
   omega
def stepC (nx:List (List Int)) (s c:Nat):Nat:=((nx[s]?.getD [])[c]?.getD 0).toNat
def runC (nx:List (List Int)) (s:Nat):List Nat→Nat
 | []=>s
 | c::t=>runC nx (stepC nx s c) t
theorem runC_append (nx:List (List Int)):∀(t:List Nat) (s c:Nat),runC nx s (t++[c])=stepC nx (runC nx s t) c
 | [],_,_=>rfl
 | d::t,s,c=>runC_append nx t (stepC nx s d) c
def textsC (m:Nat):Nat→List (List Nat)
 | 0=>[[]]
 | k+1=>(textsC m k).flatMap fun t=>(List.range m).map fun c=>t++[c]
theorem flow_congr (u:Nat) (cnt cnt':List Int):∀(rows:List (List Int)) (k:Nat),
  (∀ j,k≤j→j<k+rows.length→cnt'[j]?.getD 0=cnt[j]?.getD 0)→flow cnt' u rows k=flow cnt u rows k
 | [],_,_=>rfl
 | row::rows,k,h=>by
   rw[flow,flow,h k (Nat.le_refl _) (by simp),flow_congr u cnt cnt' rows (k+1) (fun j h1 h2=>h j (by omega) (by simp;omega))]
theorem flow_more (u s:Nat) (cnt cnt':List Int):∀(rows:List (List Int)) (k:Nat),
  (∀ j,k≤j→j<k+rows.length→cnt'[j]?.getD 0=cnt[j]?.getD 0+if j=s then 1 else 0)→k≤s→s<k+rows.length →
  flow cnt' u rows k=flow cnt u rows k+(((rows[s-k]?.getD []).count (u:Int):Nat):Int)
 | [],k,_,h1,h2=>by simp at h2;omega
 | row::rows,k,h,h1,h2=>by
   have hk:=h k (Nat.le_refl _) (by simp)
   by_cases e:k=s
   ·subst e
    rw[flow,flow,hk,flow_congr u cnt cnt' rows (k+1) (fun j h3 h4=>by
     have:=h j (by omega) (by simp;omega)
     rw[this,if_neg (by omega)];omega)]
    simp only[if_pos,Nat.sub_self,List.getElem?_cons_zero,Option.getD_some]
    rw[Int.add_mul];omega
   ·rw[if_neg e]at hk
    have:=flow_more u s cnt cnt' rows (k+1) (fun j h3 h4=>h j (by omega) (by simp;omega)) (by omega) (by simp at h2;omega)
    rw[flow,flow,hk,this]
    have e2:s-k=(s-(k+1))+1:=by omega
    rw[e2,List.getElem?_cons_succ,Int.add_zero];omega
def tally (n:Nat) (l:List Nat):List Int:=(List.range n).map fun s=>((l.count s:Nat):Int)
theorem tally_get (n:Nat) (l:List Nat) (j:Nat) (h:j<n):(tally n l)[j]?.getD 0=((l.count j:Nat):Int):=by
 simp[tally,List.getElem?_range h]
theorem flow_zero (u:Nat) (cnt:List Int):∀(rows:List (List Int)) (k:Nat),(∀ j,k≤j→j<k+rows.length→cnt[j]?.getD 0=0)→flow cnt u rows k=0
 | [],_,_=>rfl
 | row::rows,k,h=>by
   rw[flow,h k (Nat.le_refl _) (by simp),flow_zero u cnt rows (k+1) (fun j h1 h2=>h j (by omega) (by simp;omega))];simp
theorem flow_tally (u:Nat) (rows:List (List Int)):∀(l:List Nat),(∀ s∈l,s<rows.length) →
  flow (tally rows.length l) u rows 0=((l.map fun s=>(rows[s]?.getD []).count (u:Int)).sum:Nat)
 | [],_=>by
   rw[flow_zero u _ rows 0 (fun j _ h=>by rw[tally_get _ _ _ (by omega)];simp)];simp
 | s::l,h=>by
   rw[flow_more u s (tally rows.length l) _ rows 0 (fun j _ h2=>by
    rw[tally_get _ _ _ (by omega),tally_get _ _ _ (by omega),List.count_cons]
    by_cases e:j=s
    ·subst e;simp
    ·have:(s==j)=false:=by simp;omega
     simp[this,e]) (by omega) (by have:=h s (by simp);omega),flow_tally u rows l (fun x hx=>h x (by simp[hx]))]
   simp;omega
theorem range_count (row:List Int) (u:Nat):∀(m:Nat) , m=row.length→(∀ t∈row,0≤t) →
  ((List.range m).countP fun c=>(row[c]?.getD 0).toNat==u)=row.count (u:Int):=by
 induction row with
 | nil=>intro m h _;subst h;rfl
 | cons t row ih=>
   intro m h h0
   subst h
   rw[List.length_cons,List.range_succ_eq_map,List.countP_cons,List.countP_map,List.count_cons]
   have e:=ih row.length rfl (fun x hx=>h0 x (by simp[hx]))
   have e2:((fun c=>(((t::row)[c]?.getD 0).toNat==u)) ∘ Nat.succ)=fun c=>(row[c]?.getD 0).toNat==u:=by
    funext c;simp
   rw[e2,e]
   have ht:=h0 t (by simp)
   simp only[List.getElem?_cons_zero,Option.getD_some]
   by_cases e3:t=(u:Int)
   ·subst e3;simp
   ·have h1:(t.toNat==u)=false:=by simp;omega
    have h2:(t==(u:Int))=false:=by simp[e3]
    simp only[h1,h2]
def endsC (nx:List (List Int)) (m k:Nat):List Nat:=(textsC m k).map fun t=>runC nx 0 t
theorem endsC_succ (nx:List (List Int)) (m k:Nat) :
  endsC nx m (k+1)=(endsC nx m k).flatMap fun s=>(List.range m).map fun c=>stepC nx s c:=by
 simp only[endsC,textsC,List.map_flatMap,List.flatMap_map,List.map_map]
 congr 1
 funext t
 apply List.map_congr_left
 intro c _
 simp[runC_append]
theorem count_flatMap' (f:Nat→List Nat) (u:Nat):∀(l:List Nat),(l.flatMap f).count u=(l.map fun s=>(f s).count u).sum
 | []=>rfl
 | s::l=>by simp[List.flatMap_cons,List.count_append,count_flatMap' f u l]
def RowsOk (nx:List (List Int)) (m:Nat):Prop:=∀ row∈nx,row.length=m∧∀ t∈row,0≤t∧t<nx.length
theorem stepC_lt {nx:List (List Int)}{m:Nat} (h:RowsOk nx m) {s c:Nat} (hs:s<nx.length) (hc:c<m):stepC nx s c<nx.length:=by
 have h1:=h nx[s] (List.getElem_mem hs)
 have hc':c<nx[s].length:=by omega
 have h2:=h1.2 nx[s][c] (List.getElem_mem hc')
 simp only[stepC,List.getElem?_eq_getElem hs,Option.getD_some,List.getElem?_eq_getElem hc']
 omega
theorem endsC_lt {nx:List (List Int)}{m:Nat} (h:RowsOk nx m) (h0:0<nx.length):∀ k,∀ s∈endsC nx m k,s<nx.length
 | 0,s,hs=>by simp[endsC,textsC,runC]at hs;omega
 | k+1,s,hs=>by
   rw[endsC_succ]at hs
   simp only[List.mem_flatMap,List.mem_map,List.mem_range]at hs
   obtain⟨x,hx,c,hc,rfl⟩:=hs
   exact stepC_lt h (endsC_lt h h0 k x hx) hc
theorem round_tally {nx:List (List Int)}{m:Nat} (h:RowsOk nx m) (h0:0<nx.length) (k:Nat) :
  roundC (tally nx.length (endsC nx m k)) nx 0 (List.replicate nx.length 0)=tally nx.length (endsC nx m (k+1)):=by
 apply List.ext_getElem
 ·rw[roundC_length];simp[tally]
 ·intro u h1 h2
  rw[roundC_length,List.length_replicate]at h1
  have e:=roundC_get (tally nx.length (endsC nx m k)) u nx 0 (List.replicate nx.length 0)
   (fun row hr t ht=>by rw[List.length_replicate];exact(h row hr).2 t ht) (by simpa using h1)
  rw[flow_tally u nx _ (endsC_lt h h0 k)]at e
  have e2:=tally_get nx.length (endsC nx m (k+1)) u h1
  rw[endsC_succ,count_flatMap']at e2
  rw[← endsC_succ]at e2
  rw[List.getElem?_eq_getElem (by rw[roundC_length];simpa using h1),Option.getD_some]at e
  rw[List.getElem?_eq_getElem h2,Option.getD_some]at e2
  rw[e,e2]
  have e3:((List.replicate nx.length (0:Int))[u]?.getD 0)=0:=by simp[h1]
  rw[e3,Int.zero_add]
  congr 2
  apply List.map_congr_left
  intro s hs
  have hs':=endsC_lt h h0 k s hs
  have hr:=h nx[s] (List.getElem_mem hs')
  rw[← range_count (nx[s]?.getD []) u m (by simp[List.getElem?_eq_getElem hs',hr.1]) (by
   simp only[List.getElem?_eq_getElem hs',Option.getD_some];intro t ht;exact(hr.2 t ht).1)]
  rw[List.count,List.countP_map]
  rfl
theorem first_tally (n m:Nat) (nx:List (List Int)):tally n (endsC nx m 0)=(List.replicate n (0:Int)).set 0 1:=by
 apply List.ext_getElem
 ·simp[tally]
 ·intro u h1 h2
  have h1':u<n:=by simpa [tally] using h1
  have:=tally_get n (endsC nx m 0) u h1'
  rw[List.getElem?_eq_getElem h1,Option.getD_some]at this
  rw[this,List.getElem_set]
  by_cases e:0=u
  ·subst e;simp[endsC,textsC,runC]
  ·simp[endsC,textsC,runC,e]
def accSum (acc:List Bool):List Int→Nat→Int
 | [],_=>0
 | x::cnt,k=>(if acc[k]?.getD false then x else 0)+accSum acc cnt (k+1)
theorem accSum_map (acc:List Bool) (f:Nat→Int):∀(n k:Nat),
  accSum acc ((List.range n).map fun s=>f (k+s)) k=((List.range n).map fun s=>if acc[k+s]?.getD false then f (k+s) else 0).sum
 | 0,_=>rfl
 | n+1,k=>by
   rw[List.range_succ_eq_map,List.map_cons,List.map_cons,List.map_map,List.map_map,accSum]
   have:=accSum_map acc f n (k+1)
   have e:((fun s=>f (k+s)) ∘ Nat.succ)=fun s=>f (k+1+s):=by
    funext s;simp only[Function.comp,Nat.succ_eq_add_one];congr 1;omega
   have e2:((fun s=>if acc[k+s]?.getD false=true then f (k+s) else 0) ∘ Nat.succ)=fun s=>if acc[k+1+s]?.getD false=true then f (k+1+s) else 0:=by
    funext s;simp only[Function.comp,Nat.succ_eq_add_one];rw[show k+(s+1)=k+1+s by omega]
   rw[e,e2,this]
   simp
theorem sum_zero (n:Nat) (f:Nat→Int) (h:∀ s,s<n→f s=0):((List.range n).map f).sum=0:=by
 induction n with
 | zero=>rfl
 | succ n ih=>rw[List.range_succ,List.map_append,List.sum_append,ih (fun s hs=>h s (by omega))];simp[h n (by omega)]
theorem sum_add (f g:Nat→Int) (n:Nat):((List.range n).map fun s=>f s+g s).sum=((List.range n).map f).sum+((List.range n).map g).sum:=by
 induction n with
 | zero=>rfl
 | succ n ih=>simp only[List.range_succ,List.map_append,List.sum_append,ih];simp;omega
theorem sum_one (n s:Nat) (x:Int) (h:s<n):((List.range n).map fun j=>if j=s then x else 0).sum=x:=by
 induction n with
 | zero=>omega
 | succ n ih=>
   rw[List.range_succ,List.map_append,List.sum_append]
   by_cases e:s=n
   ·subst e
    rw[sum_zero s _ (fun j hj=>by rw[if_neg (by omega)])];simp
   ·rw[ih (by omega)]
    have:¬ n=s:=fun h=>e h.symm
    simp[this]
theorem accSum_tally (acc:List Bool) (n:Nat):∀(l:List Nat),(∀ s∈l,s<n) →
  accSum acc (tally n l) 0=((l.countP fun s=>acc[s]?.getD false:Nat):Int)
 | [],_=>by
   have:=accSum_map acc (fun _=>0) n 0
   simp only[tally,List.count_nil]at *
   rw[show (((0:Nat):Nat):Int)=0 from rfl]
   rw[this]
   rw[sum_zero n _ (fun s _=>by split<;>rfl)];simp
 | s::l,h=>by
   have h1:=accSum_tally acc n l (fun x hx=>h x (by simp[hx]))
   have a1:=accSum_map acc (fun j=>(((s::l).count j:Nat):Int)) n 0
   have a2:=accSum_map acc (fun j=>((l.count j:Nat):Int)) n 0
   simp only[Nat.zero_add]at a1 a2
   rw[tally,a1]
   rw[tally,a2]at h1
   have e:(fun j=>if acc[j]?.getD false=true then(((s::l).count j:Nat):Int) else 0)
     = fun j=>(if acc[j]?.getD false=true then((l.count j:Nat):Int) else 0)+if j=s then(if acc[s]?.getD false=true then 1 else 0) else 0:=by
    funext j
    rw[List.count_cons]
    by_cases e:j=s
    ·subst e;simp only[beq_self_eq_true,if_true];split<;>simp
    ·have:(s==j)=false:=by simp;omega
     simp only[this,e];simp
   rw[e,sum_add,h1,sum_one n s _ (h s (by simp)),List.countP_cons]
   split<;>simp
theorem tally_le (n:Nat) (l:List Nat):∀ x∈tally n l,0≤x∧x≤(l.length:Nat):=by
 intro x hx
 simp only[tally,List.mem_map,List.mem_range]at hx
 obtain⟨s,_,rfl⟩:=hx
 have:=List.count_le_length (a:=s) (l:=l)
 omega
theorem textsC_length (m:Nat):∀ k,(textsC m k).length=m ^ k
 | 0=>rfl
 | k+1=>by
   have:∀(l:List (List Nat)),(l.flatMap fun t=>(List.range m).map fun c=>t++[c]).length=l.length*m:=by
    intro l
    induction l with
    | nil=>simp
    | cons t l ih=>rw[List.flatMap_cons,List.length_append,ih];simp[Nat.add_mul];omega
   rw[textsC,this,textsC_length m k,Nat.pow_succ]
def addRowM (B x:Int):List Int→List Int→List Int
 | a,[]=>a
 | a,t::row=>addRowM B x (a.set t.toNat (min (a[t.toNat]?.getD 0+x) B)) row
theorem addRowM_eq (B x:Int) (hx:0≤x):∀(row a:List Int),addRowM B x (a.map fun y=>min y B) row=(addRow x a row).map fun y=>min y B
 | [],_=>rfl
 | t::row,a=>by
   rw[addRowM,addRow,← addRowM_eq B x hx row,List.map_set]
   congr 1
   by_cases h:t.toNat<a.length
   ·congr 1
    rw[List.getElem?_map,List.getElem?_eq_getElem h];simp only[Option.map_some,Option.getD_some];omega
   ·rw[List.set_eq_of_length_le (by simp;omega),List.set_eq_of_length_le (by simp;omega)]
def roundM (B:Int) (cnt:List Int):List (List Int)→Nat→List Int→List Int
 | [],_,a=>a
 | row::rows,k,a=>roundM B cnt rows (k+1) (addRowM B (cnt[k]?.getD 0) a row)
theorem roundM_eq (B:Int) (cnt:List Int) (hc:∀ x∈cnt,0≤x):∀(rows:List (List Int)) (k:Nat) (a:List Int),
  roundM B cnt rows k (a.map fun y=>min y B)=(roundC cnt rows k a).map fun y=>min y B
 | [],_,_=>rfl
 | row::rows,k,a=>by
   have h2:0≤cnt[k]?.getD 0:=by
    cases e:cnt[k]? with
    | none=>simp
    | some x=>exact hc x (List.mem_of_getElem? e)
   rw[roundM,addRowM_eq B _ h2,roundM_eq B cnt hc rows,roundC]
theorem min_all (B L:Int) (hL:L<B) (a:List Int):(∀ y∈a.map (fun y=>min y B),y≤L)↔∀ y∈a,y≤L:=by
 simp only[List.mem_map,forall_exists_index,and_imp,forall_apply_eq_imp_iff₂]
 constructor
 ·intro h y hy;have:=h y hy;omega
 ·intro h y hy;have:=h y hy;omega
theorem min_id (B L:Int) (hL:L<B) (a:List Int) (h:∀ y∈a,y≤L):a.map (fun y=>min y B)=a:=by
 rw[show a=a.map id by simp,List.map_map]
 apply List.map_congr_left
 intro y hy
 have:=h y hy
 simp only[Function.comp,id];omega
def maxN:Int:=1099511627776
def bigN:Int:=4398046511104
def countsA (nx:List (List Int)):Nat→Option (List Int)
 | 0=>some ((List.replicate nx.length 0).set 0 1)
 | k+1=>match countsA nx k with
   | none=>none
   | some c=>if(roundC c nx 0 (List.replicate nx.length 0)).all (fun x=>decide (x≤maxN)) then some (roundC c nx 0 (List.replicate nx.length 0)) else none
def countsM (nx:List (List Int)):Nat→Option (List Int)
 | 0=>some ((List.replicate nx.length 0).set 0 1)
 | k+1=>match countsM nx k with
   | none=>none
   | some c=>if(roundM bigN c nx 0 (List.replicate nx.length 0)).all (fun x=>decide (x≤maxN)) then some (roundM bigN c nx 0 (List.replicate nx.length 0)) else none
theorem addRow_nonneg (x:Int) (hx:0≤x):∀(row a:List Int),(∀ y∈a,0≤y)→∀ y∈addRow x a row,0≤y
 | [],a,h,y,hy=>h y hy
 | t::row,a,h,y,hy=>addRow_nonneg x hx row _ (fun z hz=>by
    rcases List.mem_or_eq_of_mem_set hz with h1|h1
    ·exact h z h1
    ·subst h1
     cases e:a[t.toNat]? with
     | none=>simp;omega
     | some w=>have:=h w (List.mem_of_getElem? e);simp;omega) y hy
theorem getD_nonneg {c:List Int} (h:∀ y∈c,0≤y) (k:Nat):0≤c[k]?.getD 0:=by
 cases e:c[k]? with
 | none=>simp
 | some x=>exact h x (List.mem_of_getElem? e)
theorem roundC_nonneg (c:List Int) (hc:∀ y∈c,0≤y):∀(rows:List (List Int)) (k:Nat) (a:List Int),(∀ y∈a,0≤y)→∀ y∈roundC c rows k a,0≤y
 | [],_,a,h,y,hy=>h y hy
 | row::rows,k,a,h,y,hy=>roundC_nonneg c hc rows (k+1) _ (fun z hz=>addRow_nonneg _ (getD_nonneg hc k) row a h z hz) y hy
theorem countsA_nonneg (nx:List (List Int)):∀(k:Nat) (c:List Int),countsA nx k=some c→∀ y∈c,0≤y
 | 0,c,h,y,hy=>by
   simp only[countsA,Option.some.injEq]at h
   subst h
   rcases List.mem_or_eq_of_mem_set hy with h1|h1
   ·rw[List.eq_of_mem_replicate h1];omega
   ·omega
 | k+1,c,h,y,hy=>by
   rw[countsA]at h
   cases e:countsA nx k with
   | none=>rw[e]at h;cases h
   | some c0=>
     rw[e]at h
     simp only at h
     split at h
     ·simp only[Option.some.injEq]at h
      subst h
      refine roundC_nonneg c0 (countsA_nonneg nx k c0 e) nx 0 _ (fun z hz=>?_) y hy
      rw[List.eq_of_mem_replicate hz];omega
     ·cases h
theorem countsA_length (nx:List (List Int)):∀(k:Nat) (c:List Int),countsA nx k=some c→c.length=nx.length
 | 0,c,h=>by
   simp only[countsA,Option.some.injEq]at h
   subst h
   simp
 | k+1,c,h=>by
   rw[countsA]at h
   cases e:countsA nx k with
   | none=>rw[e]at h;cases h
   | some c0=>
     rw[e]at h
     simp only at h
     split at h
     ·simp only[Option.some.injEq]at h
      subst h
      rw[roundC_length];simp
     ·cases h
theorem countsA_le (nx:List (List Int)):∀(k:Nat) (c:List Int),countsA nx k=some c→∀ y∈c,y≤maxN
 | 0,c,h,y,hy=>by
   simp only[countsA,Option.some.injEq]at h
   subst h
   rcases List.mem_or_eq_of_mem_set hy with h1|h1
   ·rw[List.eq_of_mem_replicate h1];decide
   ·subst h1;decide
 | k+1,c,h,y,hy=>by
   rw[countsA]at h
   cases e:countsA nx k with
   | none=>rw[e]at h;cases h
   | some c0=>
     rw[e]at h
     simp only at h
     split at h
     ·rename_i h1
      simp only[Option.some.injEq]at h
      subst h
      simp only[List.all_eq_true,decide_eq_true_eq]at h1
      exact h1 y hy
     ·cases h
theorem countsM_eq (nx:List (List Int)):∀(k:Nat),countsM nx k=countsA nx k
 | 0=>rfl
 | k+1=>by
   rw[countsM,countsA,countsM_eq nx k]
   cases e:countsA nx k with
   | none=>rfl
   | some c=>
     simp only
     have hz:List.replicate nx.length (0:Int)=(List.replicate nx.length (0:Int)).map fun y=>min y bigN:=by
      rw[List.map_replicate];rfl
     have hr:=roundM_eq bigN c (countsA_nonneg nx k c e) nx 0 (List.replicate nx.length 0)
     rw[← hz]at hr
     rw[hr]
     generalize roundC c nx 0 (List.replicate nx.length 0)=a
     have h1:=min_all bigN maxN (by decide) a
     by_cases h2:∀ y∈a,y≤maxN
     ·have h3:(a.map fun y=>min y bigN).all (fun x=>decide (x≤maxN))=true:=by simpa only[List.all_eq_true,decide_eq_true_eq] using h1.2 h2
      have h4:a.all (fun x=>decide (x≤maxN))=true:=by simpa only[List.all_eq_true,decide_eq_true_eq] using h2
      rw[if_pos h3,if_pos h4,min_id bigN maxN (by decide) a h2]
     ·have h3:¬ (a.map fun y=>min y bigN).all (fun x=>decide (x≤maxN))=true:=by
       intro h;exact h2 (h1.1 (by simpa only[List.all_eq_true,decide_eq_true_eq] using h))
      have h4:¬ a.all (fun x=>decide (x≤maxN))=true:=by
       intro h;exact h2 (by simpa only[List.all_eq_true,decide_eq_true_eq] using h)
      rw[if_neg h3,if_neg h4]
def countA (nx:List (List Int)) (ac:List Bool) (n:Nat):Int×Int:=
 match countsA nx n with
 | none=>(0,4)
 | some c=>if maxN<accSum ac c 0 then(0,4) else(accSum ac c 0,0)
theorem countsA_tally {nx:List (List Int)}{m:Nat} (h:RowsOk nx m) (h0:0<nx.length):∀ k,(∀ j,j≤k→(m:Int) ^ j≤maxN)→countsA nx k=some (tally nx.length (endsC nx m k))
 | 0,_=>by rw[first_tally];rfl
 | k+1,hk=>by
   rw[countsA,countsA_tally h h0 k (fun j hj=>hk j (by omega))]
   simp only
   rw[round_tally h h0 k]
   rw[if_pos]
   simp only[List.all_eq_true,decide_eq_true_eq]
   intro x hx
   have h1:=tally_le _ _ x hx
   have h2:(endsC nx m (k+1)).length=m ^ (k+1):=by rw[endsC,List.length_map,textsC_length]
   have h3:=hk (k+1) (Nat.le_refl _)
   rw[h2]at h1
   have:((m ^ (k+1):Nat):Int)=(m:Int) ^ (k+1):=by simp
   omega
end Go.Ev
namespace Go.Ev
attribute [local go_sem] retE_norm retE_ret bndO bnd evEq eqCells not_false_eq_true not_true_eq_false toList_some Array.size_empty List.length_append tySzE List.head?_drop Nat.mul_one sameAt_zero sameAt_two sameAt_three sameAt_four sameAt_five room_ok
section
attribute [local go_sem] evAppend List.map_append
open Go.Proofs Go.RowKit Go.IntWalk
set_option maxRecDepth 100000
set_option maxHeartbeats 4000000
def maxL:List Int→Int
 | []=>0
 | x::xs=>xs.foldl max x
theorem maxL_take {l:List Int}{i:Nat}{y:Int} (h:l[i+1]?=some y):maxL (l.take (i+1+1))=max (maxL (l.take (i+1))) y:=by
 cases l with
 | nil=>simp at h
 | cons x xs=>
   have h2:xs[i]?=some y:=by simpa using h
   rw[List.take_succ_cons,List.take_succ_cons,maxL,maxL,List.take_add_one,h2,Option.toList_some,List.foldl_append];rfl
theorem foldl_max (N:Int):∀(l:List Int) (x:Int),l.foldl max x≤N↔x≤N∧∀ y∈l,y≤N
 | [],x=>by simp
 | a::l,x=>by
   rw[List.foldl_cons,foldl_max N l]
   constructor
   ·rintro⟨h1,h2⟩
    refine⟨by omega,fun y hy=>?_⟩
    rcases List.mem_cons.1 hy with h|h
    ·subst h;omega
    ·exact h2 y h
   ·rintro⟨h1,h2⟩
    have:=h2 a (by simp)
    exact⟨by omega,fun y hy=>h2 y (by simp[hy])⟩
theorem maxL_le {l:List Int} (h:l≠[]) (N:Int):maxL l≤N↔∀ y∈l,y≤N:=by
 cases l with
 | nil=>exact absurd rfl h
 | cons x xs=>
   rw[maxL,foldl_max]
   constructor
   ·rintro⟨h1,h2⟩ y hy
    rcases List.mem_cons.1 hy with h|h
    ·subst h;exact h1
    ·exact h2 y h
   ·intro h;exact⟨h x (by simp),fun y hy=>h y (by simp[hy])⟩
theorem evMax_int (x y:Int):evMax (.int .i64 x) (.int .i64 y)=some (.int .i64 (max x y)):=by
 unfold evMax
 simp only[Option.some.injEq,AV.int.injEq,true_and]
 split<;>omega
theorem f71 (l:List Int) (h0:l≠[]) (hl:l.length≤1000000) (H:List MB):call Tryz.prog pol1 71 [.sl false (l.map I)] H=some (I (maxL l),H):=by
 have hpl:=plain_ints l
 have hpos:=List.length_pos_iff.2 h0
 obtain⟨x0,hx0⟩:∃ x,l[0]?=some x:=⟨_,List.getElem?_eq_getElem hpos⟩
 have hx0':(l.map I)[0]?=some (I x0):=by simp[hx0]
 have e0:maxL (l.take 1)=x0:=by
  cases l with
  | nil=>simp at hx0
  | cons a l=>simp at hx0;subst hx0;rfl
 refine call_run Tryz.func71 rfl rfl rfl rfl rfl rfl (fun _=>rfl) (by simp[AV.plain,AV.plainL,hpl]) (by simp[AV.plain]) ?_ H
 simp +contextual (disch:=omega) only[Tryz.f71,dd71,go_sem,simprocAttr,mu71,↓wrap_up,↓wrap_down,↓wrap_pred,↓wrap_sub_nat,hx0']
 refine W_count (M:=(mskOf (pol1.mask 71) (pol1.gc 71) (pol1.acts 71) 0 5)) rfl (l.length-1) (fun i=>(⟨25,[(4,.int .i64 ((i+1:Nat):Int)),(3,I (maxL (l.take (i+1)))),(0,.sl false (l.map I))],[]⟩:St)) (fun i=>True) ?_ ?_ trivial _ (by rw[e0];rfl)
 ·intro i hi _
  obtain⟨y,hy⟩:∃ y,l[i+1]?=some y:=⟨_,List.getElem?_eq_getElem (by omega)⟩
  have hy':(l.map I)[i+1]?=some (I y):=by simp[hy]
  rw[maxL_take hy]
  simp +contextual (disch:=omega) only[Tryz.f71,dd71,go_sem,simprocAttr,mu71,↓wrap_up,↓wrap_down,↓wrap_pred,↓wrap_sub_nat,hy',evMax_int]
  rfl
 ·intro _
  rw[List.take_of_length_le (by omega)]
  have:l.length-1+1=l.length:=by omega
  rw[this]
  simp +contextual (disch:=omega) only[Tryz.f71,dd71,go_sem,simprocAttr,mu71,↓wrap_up,↓wrap_down,↓wrap_pred,↓wrap_sub_nat]
  exact fzEq rfl rfl
theorem addRow_app (x:Int):∀(A B a:List Int),addRow x a (A++B)=addRow x (addRow x a A) B
 | [],_,_=>rfl
 | t::A,B,a=>by rw[List.cons_append,addRow,addRow,addRow_app x A B]
theorem addRow_take (x:Int) {row:List Int}{j:Nat}{t:Int} (h:row[j]?=some t) (a:List Int):addRow x a (row.take (j+1))=(addRow x a (row.take j)).set t.toNat ((addRow x a (row.take j))[t.toNat]?.getD 0+x):=by
 rw[List.take_add_one,h,Option.toList_some,addRow_app];rfl
theorem roundC_app (c:List Int):∀(A B:List (List Int)) (k:Nat) (a:List Int),roundC c (A++B) k a=roundC c B (k+A.length) (roundC c A k a)
 | [],_,_,_=>rfl
 | r::A,B,k,a=>by rw[List.cons_append,roundC,roundC,roundC_app c A B,List.length_cons,show k+1+A.length=k+(A.length+1) by omega]
theorem roundC_take (c:List Int) {nx:List (List Int)}{s:Nat}{row:List Int} (h:nx[s]?=some row) (a:List Int):roundC c (nx.take (s+1)) 0 a=addRow (c[s]?.getD 0) (roundC c (nx.take s) 0 a) row:=by
 have hs:=(List.getElem?_eq_some_iff.1 h).1
 rw[List.take_add_one,h,Option.toList_some,roundC_app,List.length_take,Nat.zero_add,Nat.min_eq_left (by omega)];rfl
theorem addRow_zero:∀(row a:List Int),addRow 0 a row=a
 | [],_=>rfl
 | t::row,a=>by
   have e:a.set t.toNat (a[t.toNat]?.getD 0+0)=a:=by
    apply List.ext_getElem?
    intro i
    by_cases hi:t.toNat=i
    ·subst hi
     by_cases h:t.toNat<a.length
     ·rw[List.getElem?_set_self h,List.getElem?_eq_getElem h];simp
     ·rw[List.getElem?_eq_none (by rw[List.length_set];omega),List.getElem?_eq_none (by omega)]
    ·rw[List.getElem?_set_ne hi]
   rw[addRow,e,addRow_zero row a]
end
end Go.Ev
