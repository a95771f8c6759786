/- What functions of the program compute; no further conditions. -/
import Derived.Test.YtkolcijbdendhaaGreatF14
set_option linter.unusedVariables false
set_option linter.unusedSimpArgs false
open List (any_eq_true getElem?_eq_getElem getElem?_map getElem?_of_mem length_map map_append map_cons map_nil map_take mem_append mem_cons mem_of_getElem? mem_range mem_singleton nil_append pairwise_cons take_add_one take_length)
open Nat (le_refl lt_or_ge zero_le)
open Go.Proofs Go.RowKit Go.IntWalk
set_option maxHeartbeats 4000000
set_option maxRecDepth 100000
namespace Go.Ev
attribute [local go_sem] evBin Ax A8 bndO bnd evEq eqCells not_false_eq_true not_true_eq_false toList_some Array.size_empty List.length_append map_append tySzE List.head?_drop Nat.mul_one Aj Aq Ag Ak Al Ae
theorem Fi {H:List MB}{i n k z:Nat}{rs ys:List Int}{t:Bool} (hi:getRow H i=some (1,rs.map I,z)) (hz:z<=n) (hn:rs.length=n) (hk:ys.length=k) (hr:n+k<=4000000000) :
  evAppend Pg H 22 22 (.ms i 1 n 0 n) (.sl t (ys.map I))=some (.ms i 1 (n+k) 0 (n+k),H.set i (.row 1 ((rs++ys).map I) z)):=by
 have hs:srcElems Pg H 3 (.sl t (ys.map I))=some (ys.map I):=rfl;rw[Ai (e:=3) (by kernel_rfl) (by kernel_rfl) (k:=1) (by kernel_rfl) (by_:=8) (by kernel_rfl) (ze:=I 0) (by kernel_rfl) rfl (by omega) hs (by simp[AV.cells,AV.ok]) hi (by rw[length_map];exact hn) hz (Ae (by simp;omega) (by omega))];rw[map_append,length_map,hk]
theorem Kp {id tot z:Nat}{H:List MB}{els r:List AV}{l:List Int} (hr:getRow H id=some (1,els,z)) (he:els=l.map I) (h1:l.length=tot) (h2:r=l.map I):∃ H',fz (.ms id 1 tot 0 tot) H=some (.sl false r,H'):=by
 subst he h2;exact⟨_,Az hr (by rw[length_map];exact h1) (AG _)⟩
abbrev setAV (s:Spans):AV:=.sl false (s.map spanAV)
theorem AS (L:List Spans):AV.plainL (L.map setAV)=true:=by
 induction L with
 | nil=>rfl
 | cons a l ih=>simp[AV.plainL,AV.plain,AF,ih]
theorem OW (l:List Int) (n top:Int) (hs:l.Pairwise (·< ·)) (hl:l.length<=1000000000) (H:List MB):call Pg pol1 99 [.sl false (l.map I),I n,I top] H=some (.sl false ((putL l n top).map I),H):=by
 have hpl:=AG l;refine AR Tryz.func99 rfl rfl rfl rfl rfl rfl (fun _=>rfl) (by simp[AV.plain,AV.plainL,hpl]) (by simp[AV.plain,AG]) ?_ H;simp +contextual (disch:=omega) only[Tryz.f99,dd99,go_sem,simprocAttr,evAppend,AV.cells,mu99,↓AE,↓AC,↓AB,↓AA];refine CZ (σ:=Nat) (M:=(mskOf (pol1.mask 99) (pol1.gc 99) (pol1.acts 99) 0 2)) rfl (fun k=>(⟨54,[(7,I k),(2,I top),(1,I n),(0,.sl false (l.map I))],[]⟩:St)) (fun k=>k<=l.length/\∀ i x,i<k->l[i]?=some x->x<n) (fun k=>l.length-k) 0 ?_ ⟨zero_le _,fun i x h=>by omega⟩ _ (by first|rfl|(refine AN rfl (by rfl) (by rfl) (by rfl) ?_ ?_<;>simp[AV.underL,AV.under,MB.under,AD,AI,AG,AF,AL,AM,-map_take]));intro k ⟨hk,hb⟩;have fin:(∀ x,l[k]?=some x->n<=x)->l.filter (fun x=>decide (x<n))=l.take k/\((∀ x,l[k]?=some x->n<x)->l.filter (fun x=>decide (n<x))=l.drop k/\n ∉ l):=by
  intro hx;have h1:∀ x∈l.take k,x<n:=fun x hm=>by
   obtain⟨i,hi⟩:=getElem?_of_mem hm;rw[List.getElem?_take]at hi;split at hi
   ·exact hb i x (by assumption) hi
   ·cases hi
  have hle:∀ x∈l.drop k,∃ y,l[k]?=some y/\y<=x:=fun x hm=>by
   obtain⟨i,hi⟩:=getElem?_of_mem hm;rw[List.getElem?_drop]at hi;have hlt:=(List.getElem?_eq_some_iff.1 hi).1;obtain⟨y,hy⟩:∃ y,l[k]?=some y:=⟨_,getElem?_eq_getElem (by omega)⟩;refine⟨y,hy,?_⟩;rcases Nat.eq_zero_or_pos i with rfl|h0
   ·rw[Nat.add_zero,hy]at hi;rw[Option.some.inj hi];exact Int.le_refl _
   ·obtain⟨q1,e1⟩:=List.getElem?_eq_some_iff.1 hy;have:=List.pairwise_iff_getElem.1 hs k (k+i) q1 hlt (by omega);rw[e1,(List.getElem?_eq_some_iff.1 hi).2]at this;omega
  have h2:∀ x∈l.drop k,n<=x:=fun x hm=>by
   obtain⟨y,hy,h3⟩:=hle x hm;have:=hx y hy;omega
  refine⟨?_,fun hx2=>⟨?_,fun hm=>?_⟩⟩
  ·conv=>lhs;rw[<- List.take_append_drop k l,List.filter_append]
   rw[List.filter_eq_self.2 (fun x hm=>by simpa using h1 x hm),List.filter_eq_nil_iff.2 (fun x hm=>by have:=h2 x hm;simp;omega),List.append_nil]
  ·conv=>lhs;rw[<- List.take_append_drop k l,List.filter_append]
   rw[List.filter_eq_nil_iff.2 (fun x hm=>by have:=h1 x hm;simp;omega),List.filter_eq_self.2 (fun x hm=>by
    obtain⟨y,hy,h3⟩:=hle x hm;have:=hx2 y hy;simp;omega),nil_append]
  ·rw[<- List.take_append_drop k l]at hm;rcases mem_append.1 hm with hm|hm
   ·have:=h1 n hm;omega
   ·obtain⟨y,hy,h3⟩:=hle n hm;have:=hx2 y hy;omega
 have hal:((l.map I).all fun y=>decide (y.cells.length=1))=true:=by simp[AV.cells]
 have hci:∀ x:Int,(I x).cells=[I x]:=fun x=>rfl;have htk:List.take l.length (l.map I)=l.map I:=List.take_of_length_le (by simp);have out:∀(H0:List MB),(∀ x,l[k]?=some x->n<x)->¬ n > top->putL l n top=l.take k++[n]++l.drop k:=fun _ hx2 ht=>by
  obtain⟨e1,e2⟩:=fin (fun x hx=>Int.le_of_lt (hx2 x hx));obtain⟨e2,e3⟩:=e2 hx2;unfold putL;rw[if_neg (by rintro(h|h);exact ht h;exact e3 h),e1,e2]
 by_cases hlt:k<l.length
 ·obtain⟨x,hx⟩:∃ x,l[k]?=some x:=⟨_,getElem?_eq_getElem hlt⟩;have hx':(l.map I)[k]?=some (I x):=by simp[hx]
  rcases Int.lt_trichotomy x n with h1|h1|h1
  ·simp +contextual (disch:=omega) only[Tryz.f99,dd99,go_sem,simprocAttr,evAppend,AV.cells,mu99,↓AE,↓AC,↓AB,↓AA,hx'];exact⟨k+1,⟨hlt,fun i y hi hy=>by
    rcases Nat.lt_succ_iff_lt_or_eq.1 hi with h2|rfl
    ·exact hb i y h2 hy
    ·rw[hx]at hy;rw[<- Option.some.inj hy];exact h1⟩,by omega,(by first|rfl|(refine AN rfl (by rfl) (by rfl) (by rfl) ?_ ?_<;>simp[AV.underL,AV.under,MB.under,AD,AI,AG,AF,AL,AM,-map_take]))⟩
  ·have hm:putL l n top=l:=by
    unfold putL;rw[if_pos (.inr (by rw[<- h1];exact mem_of_getElem? hx))]
   rw[hm];by_cases ht:n > top
   ·simp +contextual (disch:=omega) only[Tryz.f99,dd99,go_sem,simprocAttr,evAppend,AV.cells,mu99,↓AE,↓AC,↓AB,↓AA,hx'];exact fzEq (by simp[AV.plain,hpl]) rfl
   ·simp +contextual (disch:=omega) only[Tryz.f99,dd99,go_sem,simprocAttr,evAppend,AV.cells,mu99,↓AE,↓AC,↓AB,↓AA,hx'];exact fzEq (by simp[AV.plain,hpl]) rfl
  ·by_cases ht:n > top
   ·have hm:putL l n top=l:=by
     unfold putL;rw[if_pos (.inl ht)]
    rw[hm];simp +contextual (disch:=omega) only[Tryz.f99,dd99,go_sem,simprocAttr,evAppend,AV.cells,mu99,↓AE,↓AC,↓AB,↓AA,hx'];exact fzEq (by simp[AV.plain,hpl]) rfl
   ·rw[out [] (fun y hy=>by rw[hx]at hy;rw[<- Option.some.inj hy];exact h1) ht];have a1:=fun(t:Bool)=>Fi (H:=[MB.row 1 [] 0]) (i:=0) (rs:=[]) (ys:=l.take k) (t:=t) rfl (zero_le _) rfl (List.length_take_of_le (Nat.le_of_lt hlt)) (by simp;omega);have a2:=fun(t:Bool)=>Fi (H:=[MB.row 1 ((l.take k).map I) 0]) (i:=0) (rs:=l.take k) (ys:=[n]) (t:=t) rfl (zero_le _) (List.length_take_of_le (Nat.le_of_lt hlt)) rfl (by simp;omega);have a3:=fun(t:Bool)=>Fi (H:=[MB.row 1 ((l.take k++[n]).map I) 0]) (i:=0) (n:=k+1) (rs:=l.take k++[n]) (ys:=l.drop k) (t:=t) rfl (zero_le _) (by simp;omega) rfl (by simp;omega);simp only[List.length_nil,Nat.zero_add,nil_append,map_take,List.map_drop,map_nil,map_cons,map_append,List.set_cons_zero]at a1 a2 a3;simp +contextual (disch:=omega) only[Tryz.f99,dd99,go_sem,simprocAttr,mu99,↓AE,↓AC,↓AB,↓AA,hx',a1,a2,a3,hal,htk,hci];exact Kp (z:=0) (els:=List.take k (l.map I)++[I n]++List.drop k (l.map I)) (l:=l.take k++[n]++l.drop k) rfl (by simp) (by simp;omega) (by simp)
 ·obtain rfl:k=l.length:=by omega
  have hge:∀ x,l[l.length]?=some x->n<x:=fun x hx=>by simp at hx
  by_cases ht:n > top
  ·have hm:putL l n top=l:=by
    unfold putL;rw[if_pos (.inl ht)]
   rw[hm];simp +contextual (disch:=omega) only[Tryz.f99,dd99,go_sem,simprocAttr,evAppend,AV.cells,mu99,↓AE,↓AC,↓AB,↓AA];exact fzEq (by simp[AV.plain,hpl]) rfl
  ·rw[out [] hge ht];have a1:=fun(t:Bool)=>Fi (H:=[MB.row 1 [] 0]) (i:=0) (rs:=[]) (ys:=l) (t:=t) rfl (zero_le _) rfl rfl (by simp;omega);have a2:=fun(t:Bool)=>Fi (H:=[MB.row 1 (l.map I) 0]) (i:=0) (rs:=l) (ys:=[n]) (t:=t) rfl (zero_le _) rfl rfl (by simp;omega);have a3:=fun(t:Bool)=>Fi (H:=[MB.row 1 ((l++[n]).map I) 0]) (i:=0) (n:=l.length+1) (rs:=l++[n]) (ys:=[]) (t:=t) rfl (zero_le _) (by simp) rfl (by simp;omega);have hdr:List.drop l.length (l.map I)=[]:=List.drop_eq_nil_of_le (by simp);simp only[List.length_nil,Nat.zero_add,nil_append,map_take,List.map_drop,map_nil,map_cons,map_append,List.set_cons_zero,List.append_nil,Nat.add_zero]at a1 a2 a3;simp +contextual (disch:=omega) only[Tryz.f99,dd99,go_sem,simprocAttr,mu99,↓AE,↓AC,↓AB,↓AA,a1,a2,a3,hal,htk,hdr,hci];exact Kp (z:=0) (els:=l.map I++[I n]) (l:=l.take l.length++[n]++l.drop l.length) rfl (by simp) (by simp) (by simp)
theorem OV (t:Bool) (l:List Int) (n top:Int) (hs:l.Pairwise (·< ·)) (hl:l.length<=1000000000) (H:List MB):call Pg pol1 99 [.sl t (l.map I),I n,I top] H=some (.sl false ((putL l n top).map I),H):=by
 have hpl:=AG l;rw[CM (l:=[.sl false (l.map I),I n,I top]) (H1:=H) rfl ?_ (by simp[AV.plainL,AV.plain,hpl])]
 ·exact OW l n top hs hl H
 ·have h1:pol1.byref 99 0=false:=rfl;have h2:pol1.byref 99 (0+1)=false:=rfl;have h3:pol1.byref 99 (0+1+1)=false:=rfl;simp only[frzArgs,h1,h2,h3,Bool.false_eq_true,if_false,C1 hpl,Ac H (show AV.plain (I n)=true from rfl),Ac H (show AV.plain (I top)=true from rfl)]
theorem IX {top:Int}{l:List Int}{s:Spans}{k:Nat}{p:Int×Int} (h:s[k]?=some p):putS top l (s.take (k+1))=putL (putL (putS top l (s.take k)) p.1 top) (p.2+1) top:=by
 rw[take_add_one,h];simp[putS]
theorem HO {top:Int}{L:List Spans}{i:Nat}{s:Spans} (h:L[i]?=some s):endsR (L.take (i+1)) top=putS top (endsR (L.take i) top) s:=by
 rw[take_add_one,h];simp[endsR]
theorem FU {top:Int} (h0:0<=top):∀ {L:List Spans},(∀ s∈L,SetV s)->(∀ s∈L,s.length<=64)->(endsR L top).length<=1+128*L.length:=by
 intro L hs hl;have key:∀ i,i<=L.length->(endsR (L.take i) top).length<=1+128*i:=by
  intro i
  induction i with
  | zero=>intro _;simp[endsR]
  | succ i ih=>
    intro hi;obtain⟨s,hsi⟩:∃ s,L[i]?=some s:=⟨_,getElem?_eq_getElem (by omega)⟩;have hm:=mem_of_getElem? hsi;rw[HO hsi];have h1:=(Cr (s:=s) (E5 (L:=L.take i) h0 fun t ht=>hs t (List.mem_of_mem_take ht)) (fun p hp=>⟨((hs s hm).good p hp).1,((hs s hm).good p hp).2.1⟩)).2.1;have h2:=hl s hm;have h3:=ih (by omega);omega
 have:=key L.length (le_refl _);rw[take_length]at this;exact this
structure EK where
 i:Nat
 t:Bool
theorem sf72 (L:List Spans) (top:Int) (h0:0<=top) (htp:top<=1114111) (hs:∀ s∈L,SetV s) (hl:L.length<=1000000) (hsl:∀ s∈L,s.length<=64) (H:List MB):call Pg pol1 65 [.sl false (L.map setAV),I top] H=some (.sl false ((endsR L top).map I),H):=by
 have hpl:=AS L;have fz1:∀(t:Bool) (l:List AV) H,AV.plainL l=true->fz (.sl t l) H=some (.sl false l,H):=fun t l H h=>C1 h H;refine AR Tryz.func65 rfl rfl rfl rfl rfl rfl (fun _=>rfl) (by simp[AV.plain,AV.plainL,hpl]) (by simp[AV.plain,AG]) ?_ H;simp +contextual (disch:=omega) only[Tryz.f65,dd65,go_sem,simprocAttr,evAppend,AV.cells,mu65,↓AE,↓AC,↓AB,↓AA];refine CZ (σ:=EK) (M:=(mskOf (pol1.mask 65) (pol1.gc 65) (pol1.acts 65) 0 3)) rfl (fun x=>(⟨48,[(6,I x.i),(5,.sl x.t ((endsR (L.take x.i) top).map I)),(1,I top),(0,.sl false (L.map setAV))],[]⟩:St)) (fun x=>x.i<=L.length) (fun x=>L.length-x.i) ⟨0,true⟩ ?_ (zero_le _) _ (by first|rfl|(refine AN rfl (by rfl) (by rfl) (by rfl) ?_ ?_<;>simp[AV.underL,AV.under,MB.under,AD,AI,AG,AF,AL,AM,-map_take]));rintro⟨i,t⟩ hi;simp only at hi |-;have e0:=E5 (L:=L.take i) h0 fun s hm=>hs s (List.mem_of_mem_take hm);have l0:=FU h0 (L:=L.take i) (fun s hm=>hs s (List.mem_of_mem_take hm)) (fun s hm=>hsl s (List.mem_of_mem_take hm));have l1:=List.length_take_le i L;by_cases hlt:i<L.length
 ·obtain⟨s,hsi⟩:∃ s,L[i]?=some s:=⟨_,getElem?_eq_getElem hlt⟩;have hsi':(L.map setAV)[i]?=some (setAV s):=by simp[hsi]
  have hm:=mem_of_getElem? hsi;have hv:=hs s hm;have hsl1:=hsl s hm;have hst:=HO (top:=top) hsi;generalize endsR (L.take i) top=l at *;simp +contextual (disch:=omega) only[Tryz.f65,dd65,go_sem,simprocAttr,evAppend,AV.cells,mu65,↓AE,↓AC,↓AB,↓AA,hsi'];refine CZ (σ:=EK) (M:=(mskOf (pol1.mask 65) (pol1.gc 65) (pol1.acts 65) 0 6)) rfl (fun x=>(⟨48,[(7,I x.i),(6,I i),(5,.sl x.t ((putS top l (s.take x.i)).map I)),(1,I top),(0,.sl false (L.map setAV))],[]⟩:St)) (fun x=>x.i<=s.length) (fun x=>s.length-x.i) ⟨0,t⟩ ?_ (zero_le _) _ (by first|rfl|(refine AN rfl (by rfl) (by rfl) (by rfl) ?_ ?_<;>simp[AV.underL,AV.under,MB.under,AD,AI,AG,AF,AL,AM,-map_take]));rintro⟨k,t⟩ hk;simp only at hk |-;obtain⟨e1,l2,_⟩:=Cr (s:=s.take k) e0 (fun p hp=>⟨(hv.good p (List.mem_of_mem_take hp)).1,(hv.good p (List.mem_of_mem_take hp)).2.1⟩);have l3:=List.length_take_le k s;by_cases hkl:k<s.length
  ·obtain⟨p,hp⟩:∃ p,s[k]?=some p:=⟨_,getElem?_eq_getElem hkl⟩;have hp':(s.map spanAV)[k]?=some (spanAV p):=by simp[hp]
   have hg:=hv.good p (mem_of_getElem? hp);have l4:=Es (putS top l (s.take k)) p.1 top;have h1:=OV t (putS top l (s.take k)) p.1 top e1.sorted (by omega);have h2:=OW (putL (putS top l (s.take k)) p.1 top) (p.2+1) top (e1.put hg.1).sorted (by omega);have hw:IntKind.i64.wrap (p.2+1)=p.2+1:=by rw[i64_in];omega
   have hst:=IX (top:=top) (l:=l) hp;simp +contextual (disch:=omega) only[Tryz.f65,dd65,go_sem,simprocAttr,evAppend,AV.cells,mu65,↓AE,↓AC,↓AB,↓AA,hsi',hp',h1,h2,hw];exact⟨⟨k+1,false⟩,hkl,by show s.length-(k+1)<s.length-k;omega,by simp only[hst];exact(by first|rfl|(refine AN rfl (by rfl) (by rfl) (by rfl) ?_ ?_<;>simp[AV.underL,AV.under,MB.under,AD,AI,AG,AF,AL,AM,-map_take]))⟩
  ·obtain rfl:k=s.length:=by omega
   rw[take_length];simp +contextual (disch:=omega) only[Tryz.f65,dd65,go_sem,simprocAttr,evAppend,AV.cells,mu65,↓AE,↓AC,↓AB,↓AA,hsi'];exact⟨⟨i+1,t⟩,hlt,by show L.length-(i+1)<L.length-i;omega,by simp only[hst];exact(by first|rfl|(refine AN rfl (by rfl) (by rfl) (by rfl) ?_ ?_<;>simp[AV.underL,AV.under,MB.under,AD,AI,AG,AF,AL,AM,-map_take]))⟩
 ·obtain rfl:i=L.length:=by omega
  rw[take_length];simp +contextual (disch:=omega) only[Tryz.f65,dd65,go_sem,simprocAttr,evAppend,AV.cells,mu65,↓AE,↓AC,↓AB,↓AA];exact⟨_,C1 (AG _) _⟩
theorem sf73 (L:List Spans) (a b:Int) (hl:L.length<=1000000) (hsl:∀ s∈L,s.length<=64) (H:List MB):call Pg pol1 66 [.sl false (L.map setAV),I a,I b] H=some (.bool (decide (colA L a=colA L b)),H):=by
 have hpl:=AS L;refine AR Tryz.func66 rfl rfl rfl rfl rfl rfl (fun _=>rfl) (by simp[AV.plain,AV.plainL,hpl]) (by simp[AV.plain,AG]) ?_ H;simp +contextual (disch:=omega) only[Tryz.f66,dd66,go_sem,simprocAttr,evAppend,AV.cells,mu66,↓AE,↓AC,↓AB,↓AA];refine AY (M:=(mskOf (pol1.mask 66) (pol1.gc 66) (pol1.acts 66) 0 2)) rfl L.length (fun i=>(⟨31,[(7,I i),(2,I b),(1,I a),(0,.sl false (L.map setAV))],[]⟩:St)) (fun i=>∀ k s,k<i->L[k]?=some s->hasSpan s a=hasSpan s b) ?_ ?_ (fun k p h=>by omega) _ (by first|rfl|(refine AN rfl (by rfl) (by rfl) (by rfl) ?_ ?_<;>simp[AV.underL,AV.under,MB.under,AD,AI,AG,AF,AL,AM,-map_take]))
 ·intro i hi hg;obtain⟨s,hsi⟩:∃ s,L[i]?=some s:=⟨_,getElem?_eq_getElem hi⟩;have hsi':(L.map setAV)[i]?=some (setAV s):=by simp[hsi]
  have hm:=mem_of_getElem? hsi;have ha:=Mb s a (by have:=hsl s hm;omega);have hb:=Mb s b (by have:=hsl s hm;omega);by_cases he:hasSpan s a=hasSpan s b
  ·rw[he]at ha;simp +contextual (disch:=omega) only[Tryz.f66,dd66,go_sem,simprocAttr,evAppend,AV.cells,mu66,↓AE,↓AC,↓AB,↓AA,hsi',ha,hb];refine⟨fun _=>⟨fun k q hk hq=>?_,(by first|rfl|(refine AN rfl (by rfl) (by rfl) (by rfl) ?_ ?_<;>simp[AV.underL,AV.under,MB.under,AD,AI,AG,AF,AL,AM,-map_take]))⟩,fun h=>absurd rfl h⟩;rcases Nat.lt_succ_iff_lt_or_eq.1 hk with h|rfl
   ·exact hg k q h hq
   ·rw[hsi]at hq;rw[<- Option.some.inj hq];exact he
  ·have hd:decide (colA L a=colA L b)=false:=decide_eq_false fun e=>he (by
    have:=congrArg (fun l:List Bool=>l[i]?) e
    simpa [colA,hsi] using this)
   rw[hd];simp +contextual (disch:=omega) only[Tryz.f66,dd66,go_sem,simprocAttr,evAppend,AV.cells,mu66,↓AE,↓AC,↓AB,↓AA,hsi',ha,hb];exact⟨fun h=>absurd h he,fun _=>fzEq rfl rfl⟩
 ·intro hg;have hd:decide (colA L a=colA L b)=true:=decide_eq_true (by
   unfold colA;refine List.map_congr_left fun s hs=>?_;obtain⟨k,hk⟩:=getElem?_of_mem hs;exact hg k s (List.getElem?_eq_some_iff.1 hk).1 hk)
  rw[hd];simp +contextual (disch:=omega) only[Tryz.f66,dd66,go_sem,simprocAttr,evAppend,AV.cells,mu66,↓AE,↓AC,↓AB,↓AA];exact fzEq rfl rfl
def ofL (pc:Nat->Int×Int) (b:Nat->Bool):Nat->Spans
 | 0=>[]
 | n+1=>if b n then addI (ofL pc b n) (pc n) else ofL pc b n
theorem Jc (pc:Nat->Int×Int) (b:Nat->Bool):∀ n,(ofL pc b n).length<=n
 | 0=>by simp[ofL]
 | n+1=>by
   have ih:=Jc pc b n;simp only[ofL];split
   ·have:=(Ht (ofL pc b n) (pc n)).2.1;omega
   ·omega
theorem Jd (pc:Nat->Int×Int) (col:Nat->List Bool) (c:List Bool):∀ n,ofL pc (fun k=>decide (col k=c)) n=clsOf col pc c n
 | 0=>rfl
 | n+1=>by
   simp only[ofL,clsOf,decide_eq_true_eq];rw[Jd]
theorem Gp {E:List Int}{top:Int} (he:EndsOk top E) (b:Nat->Bool):∀ {n:Nat},n<=E.length->(ofL (pieceA E top) b n=[]/\∀ k,k<n->b k=false)∨∃ O q k,ofL (pieceA E top) b n=O++[q]/\k<n/\b k=true/\q.2=lastP E top (k+1)-1/\(∀ j,k<j->j<n->b j=false)/\q.1<=q.2
 | 0,_=>.inl ⟨rfl,fun k h=>by omega⟩
 | n+1,hn=>by
   have st:=he.step (k:=n) (by omega);simp only[ofL];cases hb:b n with
   | false=>
     simp only[Bool.false_eq_true,if_false];rcases Gp he b (n:=n) (by omega) with ⟨h1,h2⟩|⟨O,q,k,h1,h2,h3,h4,h5,h6⟩
     ·exact .inl ⟨h1,fun k hk=>by
       rcases Nat.lt_succ_iff_lt_or_eq.1 hk with h|rfl
       ·exact h2 k h
       ·exact hb⟩
     ·exact .inr ⟨O,q,k,h1,by omega,h3,h4,fun j h7 h8=>by
       rcases Nat.lt_succ_iff_lt_or_eq.1 h8 with h|rfl
       ·exact h5 j h7 h
       ·exact hb,h6⟩
   | true=>
     simp only[if_true];right;rcases Gp he b (n:=n) (by omega) with ⟨h1,h2⟩|⟨O,q,k,h1,h2,h3,h4,h5,h6⟩
     ·rw[h1,DJ];exact⟨[],pieceA E top n,n,rfl,by omega,hb,rfl,fun j h7 h8=>by omega,by simp only[pieceA];omega⟩
     ·rw[h1,CP];have stk:=he.step (k:=k) (by omega);split
      ·rename_i hle;refine⟨O,_,n,rfl,by omega,hb,?_,fun j h7 h8=>by omega,?_⟩
       ·simp only[pieceA]at hle |-;have:lastP E top (k+1)<=lastP E top n:=by
         rcases Nat.lt_or_eq_of_le (show k+1<=n by omega) with h9|h9
         ·exact Int.le_of_lt (he.mono h9 (by omega))
         ·rw[h9];exact Int.le_refl _
        omega
       ·simp only;omega
      ·exact⟨O++[q],_,n,rfl,by omega,hb,rfl,fun j h7 h8=>by omega,by simp only[pieceA];omega⟩
theorem Om {O:Spans}{q:Int×Int}{O':Spans} (h:O' = O++[q]):(O'.map spanAV)[O'.length-1]?=some (spanAV q)/\O'.length=O.length+1:=by
 subst h;simp
theorem MK {H:List MB}{i n z:Nat}{rs:Spans}{p:Int×Int}{t:Bool} (hi:getRow H i=some (2,rs.map spanAV,z)) (hz:z<=n) (hn:rs.length=n) (hr:n+1<=4000000000) :
  evAppend Pg H 23 23 (.ms i 2 n 0 n) (.sl t [.agg [I p.1,I p.2]])=some (.ms i 2 (n+1) 0 (n+1),H.set i (.row 2 ((rs++[p]).map spanAV) z)):=by
 have hs:srcElems Pg H 73 (.sl t [.agg [I p.1,I p.2]])=some [.agg [I p.1,I p.2]]:=rfl;rw[Ai (e:=73) (by kernel_rfl) (by kernel_rfl) (k:=2) (by kernel_rfl) (by_:=16) (by kernel_rfl) (ze:=.agg [I 0,I 0]) (by kernel_rfl) rfl (by omega) hs (by simp[AV.cells,AV.ok]) hi (by rw[length_map];exact hn) hz (Ae (by simp;omega) (by omega))];rw[map_append];rfl
theorem Pc {H:List MB}{i n z:Nat}{rs:List Spans}{p:Spans}{t:Bool} (hi:getRow H i=some (1,rs.map setAV,z)) (hz:z<=n) (hn:rs.length=n) (hr:n+1<=4000000000) :
  evAppend Pg H 33 33 (.ms i 1 n 0 n) (.sl t [.sl false (p.map spanAV)])=some (.ms i 1 (n+1) 0 (n+1),H.set i (.row 1 ((rs++[p]).map setAV) z)):=by
 have hs:srcElems Pg H 23 (.sl t [.sl false (p.map spanAV)])=some [.sl false (p.map spanAV)]:=rfl;rw[Ai (e:=23) (by kernel_rfl) (by kernel_rfl) (k:=1) (by kernel_rfl) (by_:=24) (by kernel_rfl) (ze:=.sl true []) (by kernel_rfl) rfl (by omega) hs (by simp[AV.cells,AV.ok]) hi (by rw[length_map];exact hn) hz (Ae (by simp;omega) (by omega))];rw[map_append];rfl
theorem sf74 {E:List Int}{top:Int} (he:EndsOk top E) (htp:top<=1114111) (bs:List Bool) (hb:bs.length=E.length) (hl:E.length<=1000000000) (H:List MB) :
  call Pg pol1 67 [.sl false (E.map I),.sl false (bs.map AV.bool),I top] H =
   some (if 64<(ofL (pieceA E top) (fun k=>bs.getD k false) E.length).length then .tup [.sl false [],I 4] else .tup [.sl false ((ofL (pieceA E top) (fun k=>bs.getD k false) E.length).map spanAV),I 0],H):=by
 have hpe:=AG E;have hpb:=BJ bs;refine AR Tryz.func67 rfl rfl rfl rfl rfl rfl (fun _=>rfl) (by simp[AV.plain,AV.plainL,hpe,hpb]) (by split<;>simp[AV.plain,AV.plainL,AF]) ?_ H;simp +contextual (disch:=omega) only[Tryz.f67,dd67,go_sem,simprocAttr,evAppend,AV.cells,mu67,↓AE,↓AC,↓AB,↓AA];refine AY (M:=(mskOf (pol1.mask 67) (pol1.gc 67) (pol1.acts 67) 0 3)) rfl E.length (fun i=>(⟨63,[(9,I i),(8,.ms 0 2 (ofL (pieceA E top) (fun k=>bs.getD k false) i).length 0 (ofL (pieceA E top) (fun k=>bs.getD k false) i).length),(2,I top),(1,.sl false (bs.map AV.bool)),(0,.sl false (E.map I))],[.row 2 ((ofL (pieceA E top) (fun k=>bs.getD k false) i).map spanAV) 0]⟩:St)) (fun i=>True) ?_ ?_ trivial _ (by first|rfl|(refine AN rfl (by rfl) (by rfl) (by rfl) ?_ ?_<;>simp[AV.underL,AV.under,MB.under,AD,AI,AG,AF,AL,AM,-map_take,BJ]))
 ·intro i hi _;obtain⟨x,hx⟩:∃ x,E[i]?=some x:=⟨_,getElem?_eq_getElem hi⟩;have hx':(E.map I)[i]?=some (I x):=by simp[hx]
  obtain⟨b,hbi⟩:∃ b,bs[i]?=some b:=⟨_,getElem?_eq_getElem (by omega)⟩;have hbi':(bs.map AV.bool)[i]?=some (.bool b):=by simp[hbi]
  have hbd:bs.getD i false=b:=by simp[List.getD_eq_getElem?_getD,hbi]
  have hx2:=he.le x (mem_of_getElem? hx);have hlo:=Jc (pieceA E top) (fun k=>bs.getD k false) i;have hst:ofL (pieceA E top) (fun k=>bs.getD k false) (i+1)=if b then addI (ofL (pieceA E top) (fun k=>bs.getD k false) i) (pieceA E top i) else ofL (pieceA E top) (fun k=>bs.getD k false) i:=by simp only[ofL,hbd]
  have hla:=Gp he (fun k=>bs.getD k false) (n:=i) (by omega);have hpc:(pieceA E top i).1=x:=BI hx;have hstep:=he.step hi;cases b with
  | false=>
    rw[if_neg (by simp)]at hst;simp +contextual (disch:=omega) only[Tryz.f67,dd67,go_sem,simprocAttr,evAppend,AV.cells,mu67,↓AE,↓AC,↓AB,↓AA,hx',hbi'];simp only[hst];exact(by first|rfl|(refine AN rfl (by rfl) (by rfl) (by rfl) ?_ ?_<;>simp[AV.underL,AV.under,MB.under,AD,AI,AG,AF,AL,AM,-map_take,BJ]))
  | true=>
    rw[if_pos rfl]at hst;generalize hO:ofL (pieceA E top) (fun k=>bs.getD k false) i=O at *;generalize hO2:ofL (pieceA E top) (fun k=>bs.getD k false) (i+1)=O2 at *;have hp:pieceA E top i=(x,lastP E top (i+1)-1):=by rw[<- hpc];rfl
    rw[hp]at hst;have hhi:lastP E top i=x:=hpc;have a1:=fun(t:Bool)=>MK (H:=[MB.row 2 (O.map spanAV) 0]) (i:=0) (p:=(x,lastP E top (i+1)-1)) (t:=t) rfl (zero_le _) rfl (by omega);by_cases hprev:0<i/\bs.getD (i-1) false=true
    ·obtain⟨h0,hpv⟩:=hprev;have hbp:(bs.map AV.bool)[i-1]?=some (.bool true):=by
      obtain⟨b,hb1⟩:∃ b,bs[i-1]?=some b:=⟨_,getElem?_eq_getElem (by omega)⟩;have:b=true:=by simpa [List.getD_eq_getElem?_getD,hb1] using hpv
      simp[hb1,this]
     obtain⟨O',q,k,h1,h2,h3,h4,h5,h6⟩:∃ O' q k,O=O'++[q]/\k<i/\bs.getD k false=true/\q.2=lastP E top (k+1)-1/\(∀ j,k<j->j<i->bs.getD j false=false)/\q.1<=q.2:=by
      rcases hla with ⟨_,h⟩|h
      ·rw[h (i-1) (by omega)]at hpv;cases hpv
      ·exact h
     have hk:k=i-1:=by
      rcases lt_or_ge k (i-1) with h7|h7
      ·rw[h5 (i-1) h7 (by omega)]at hpv;cases hpv
      ·omega
     rw[hk,show i-1+1=i by omega,hhi]at h4;rw[h1,CP,if_pos (by simp only;omega),Int.max_eq_right (by simp only;omega)]at hst;obtain⟨h8,h9⟩:=Om h1;have h10:(O.map spanAV).set (O.length-1) (.agg [I q.1,I (lastP E top (i+1)-1)])=O2.map spanAV:=by
      rw[h1,hst];simp
     have h11:O2.length=O.length:=by rw[h1,hst];simp
     rw[h11];rcases lt_or_ge (i+1) E.length with h12|h12
     ·obtain⟨y,hy⟩:∃ y,E[i+1]?=some y:=⟨_,getElem?_eq_getElem h12⟩;have hy':(E.map I)[i+1]?=some (I y):=by simp[hy]
      have hly:lastP E top (i+1)=y:=BI hy;rw[hly]at h10 hstep;have hw:IntKind.i64.wrap (y-1)=y-1:=by rw[i64_in];omega
      simp +contextual (disch:=omega) only[Tryz.f67,dd67,go_sem,simprocAttr,evAppend,AV.cells,mu67,↓AE,↓AC,↓AB,↓AA,hx',hbi',hbp,hy',hw,h8,h10];exact(by first|rfl|(refine AN rfl (by rfl) (by rfl) (by rfl) ?_ ?_<;>simp[AV.underL,AV.under,MB.under,AD,AI,AG,AF,AL,AM,-map_take,BJ]))
     ·have hly:lastP E top (i+1)=top+1:=B6 h12;rw[hly,show top+1-1=top by omega]at h10;simp +contextual (disch:=omega) only[Tryz.f67,dd67,go_sem,simprocAttr,evAppend,AV.cells,mu67,↓AE,↓AC,↓AB,↓AA,hx',hbi',hbp,h8,h10];exact(by first|rfl|(refine AN rfl (by rfl) (by rfl) (by rfl) ?_ ?_<;>simp[AV.underL,AV.under,MB.under,AD,AI,AG,AF,AL,AM,-map_take,BJ]))
    ·have hO3:O2=O++[(x,lastP E top (i+1)-1)]:=by
      rw[hst];rcases hla with ⟨h,_⟩|⟨O',q,k,h1,h2,h3,h4,h5,h6⟩
      ·rw[h];rfl
      ·rw[h1,CP,if_neg];have hk:k+1<i:=by
        rcases Nat.lt_or_eq_of_le (show k+1<=i by omega) with h7|h7
        ·exact h7
        ·exact absurd ⟨by omega,by rw[show i-1=k by omega];exact h3⟩ hprev
       have:=he.mono hk (by omega);simp only;omega
     have h11:O2.length=O.length+1:=by rw[hO3];simp
     rw[h11];simp only[List.set_cons_zero]at a1;rw[<- hO3]at a1;have hbp:i=0∨(0<i/\(bs.map AV.bool)[i-1]?=some (.bool false)):=by
      rcases Nat.eq_zero_or_pos i with h0|h0
      ·exact .inl h0
      ·obtain⟨b,hb1⟩:∃ b,bs[i-1]?=some b:=⟨_,getElem?_eq_getElem (by omega)⟩;have:b=false:=by
        cases b with
        | false=>rfl
        | true=>exact absurd ⟨h0,by simp[List.getD_eq_getElem?_getD,hb1]⟩ hprev
       exact .inr ⟨h0,by simp[hb1,this]⟩
     rcases lt_or_ge (i+1) E.length with h12|h12
     ·obtain⟨y,hy⟩:∃ y,E[i+1]?=some y:=⟨_,getElem?_eq_getElem h12⟩;have hy':(E.map I)[i+1]?=some (I y):=by simp[hy]
      have hly:lastP E top (i+1)=y:=BI hy;rw[hly]at a1 hstep;have hw:IntKind.i64.wrap (y-1)=y-1:=by rw[i64_in];omega
      rcases hbp with rfl|⟨h0,hbp⟩
      ·simp +contextual (disch:=omega) only[Tryz.f67,dd67,go_sem,simprocAttr,AV.cells,mu67,↓AE,↓AC,↓AB,↓AA,hx',hbi',hy',hw,a1];exact(by first|rfl|(refine AN rfl (by rfl) (by rfl) (by rfl) ?_ ?_<;>simp[AV.underL,AV.under,MB.under,AD,AI,AG,AF,AL,AM,-map_take,BJ]))
      ·simp +contextual (disch:=omega) only[Tryz.f67,dd67,go_sem,simprocAttr,AV.cells,mu67,↓AE,↓AC,↓AB,↓AA,hx',hbi',hbp,hy',hw,a1];exact(by first|rfl|(refine AN rfl (by rfl) (by rfl) (by rfl) ?_ ?_<;>simp[AV.underL,AV.under,MB.under,AD,AI,AG,AF,AL,AM,-map_take,BJ]))
     ·have hly:lastP E top (i+1)=top+1:=B6 h12;rw[hly,show top+1-1=top by omega]at a1;rcases hbp with rfl|⟨h0,hbp⟩
      ·simp +contextual (disch:=omega) only[Tryz.f67,dd67,go_sem,simprocAttr,AV.cells,mu67,↓AE,↓AC,↓AB,↓AA,hx',hbi',a1];exact(by first|rfl|(refine AN rfl (by rfl) (by rfl) (by rfl) ?_ ?_<;>simp[AV.underL,AV.under,MB.under,AD,AI,AG,AF,AL,AM,-map_take,BJ]))
      ·simp +contextual (disch:=omega) only[Tryz.f67,dd67,go_sem,simprocAttr,AV.cells,mu67,↓AE,↓AC,↓AB,↓AA,hx',hbi',hbp,a1];exact(by first|rfl|(refine AN rfl (by rfl) (by rfl) (by rfl) ?_ ?_<;>simp[AV.underL,AV.under,MB.under,AD,AI,AG,AF,AL,AM,-map_take,BJ]))
 ·intro _;have hlo:=Jc (pieceA E top) (fun k=>bs.getD k false) E.length;generalize ofL (pieceA E top) (fun k=>bs.getD k false) E.length=O at *;by_cases h64:64<O.length
  ·rw[if_pos h64];simp +contextual (disch:=omega) only[Tryz.f67,dd67,go_sem,simprocAttr,evAppend,AV.cells,mu67,↓AE,↓AC,↓AB,↓AA];exact⟨_,rfl⟩
  ·rw[if_neg h64];simp +contextual (disch:=omega) only[Tryz.f67,dd67,go_sem,simprocAttr,evAppend,AV.cells,mu67,↓AE,↓AC,↓AB,↓AA];exact HA (k:=2) (z:=0) (els:=O.map spanAV) rfl (by simp) (AF _)
def splitR:Option (List Spans)->AV
 | none=>.tup [.sl false [],I 4]
 | some cls=>.tup [.sl false (cls.map setAV),I 0]
theorem NH {α:Type}{m k:Nat} (f:Nat->α) (v:α):((List.range m).map f).set k v=(List.range m).map fun j=>if j=k then v else f j:=by
 refine List.ext_getElem? fun i=>?_;rw[List.getElem?_set,getElem?_map,getElem?_map,length_map,List.length_range];rcases lt_or_ge i m with h|h
 ·rw[List.getElem?_range h];by_cases e:k=i
  ·subst e;simp[h]
  ·simp[e,Ne.symm e]
 ·rw[List.getElem?_eq_none (by simpa using h)];simp;omega
theorem IZ {pc:Nat->Int×Int}{b b':Nat->Bool}:∀ {n:Nat},(∀ j,j<n->b j=b' j)->ofL pc b n=ofL pc b' n
 | 0,_=>rfl
 | n+1,h=>by
   simp only[ofL,h n (by omega),IZ (n:=n) fun j hj=>h j (by omega)]
def bR (m:Nat) (f:Nat->Bool):List AV:=((List.range m).map f).map AV.bool
theorem Hm (m:Nat) (f:Nat->Bool):(bR m f).length=m:=by simp[bR]
theorem LE {m k:Nat} (f:Nat->Bool) (h:k<m):(bR m f)[k]?=some (.bool (f k)):=by simp[bR,h]
theorem PZ {m k:Nat}{f g:Nat->Bool} (h:∀ j,j<m->g j=if j=k then g k else f j):(bR m f).set k (.bool (g k))=bR m g:=by
 unfold bR;rw[<- List.map_set,NH];congr 1;refine List.map_congr_left fun j hj=>?_;rw[h j (mem_range.1 hj)]
theorem Pa (m:Nat):List.replicate m (AV.bool false)=bR m fun _=>false:=by simp[bR,List.map_const']
theorem E8 {m:Nat}{f g:Nat->Bool} (h:∀ j,j<m->f j=g j):bR m f=bR m g:=by
 unfold bR;congr 1;exact List.map_congr_left fun j hj=>h j (mem_range.1 hj)
theorem B7 (m:Nat) (f:Nat->Bool):AV.plainL (bR m f)=true:=BJ _
def outA (col:Nat->List Bool) (pc:Nat->Int×Int) (m i:Nat):List Spans:=(firsts col i).map fun c=>clsOf col pc c m
theorem KX (col:Nat->List Bool) (pc:Nat->Int×Int) (m i:Nat):(outA col pc m i).length=(firsts col i).length:=by simp[outA]
theorem sf39 (L:List Spans) (top:Int) (h0:0<=top) (htp:top<=1114111) (hs:∀ s∈L,SetV s) (hv:∀ s∈L,refSpans s=0) (hl:L.length<=8192) (hsl:∀ s∈L,s.length<=64) (H:List MB) :
  call Pg pol1 33 [.sl false (L.map setAV),I top] H=some (if 1024<L.length then splitR none else splitR (splitA L (endsR L top) top),H):=by
 have hpl:=AS L;have h72:=sf72 L top h0 htp hs (by omega) hsl;have hEn:=FU h0 hs hsl;have hE:=E5 h0 hs;have h71:∀ s∈L,∀ H,call Pg pol1 64 [setAV s] H=some (I 0,H):=fun s hm H=>by
  rw[f119 s (by have:=hsl s hm;omega) H,hv s hm]
 refine AR Tryz.func33 rfl rfl rfl rfl rfl rfl (fun _=>rfl) (by simp[AV.plain,AV.plainL,hpl]) (by
  split
  ·rfl
  ·cases splitA L (endsR L top) top with
   | none=>rfl
   | some c=>simp[splitR,AV.plain,AV.plainL,AS]) ?_ H
 simp +contextual (disch:=omega) only[Tryz.f33,dd33,go_sem,simprocAttr,evAppend,AV.cells,mu33,↓AE,↓AC,↓AB,↓AA];refine AY (M:=(mskOf (pol1.mask 33) (pol1.gc 33) (pol1.acts 33) 0 2)) rfl L.length (fun i=>(⟨109,[(6,I i),(1,I top),(0,.sl false (L.map setAV))],[]⟩:St)) (fun i=>True) ?_ ?_ trivial _ (by first|rfl|(refine AN rfl (by rfl) (by rfl) (by rfl) ?_ ?_<;>simp[AV.underL,AV.under,MB.under,AD,AI,AG,AF,AL,AM,-map_take]))
 ·intro i hi _;obtain⟨s,hsi⟩:∃ s,L[i]?=some s:=⟨_,getElem?_eq_getElem hi⟩;have hsi':(L.map setAV)[i]?=some (setAV s):=by simp[hsi]
  have h:=h71 s (mem_of_getElem? hsi);simp +contextual (disch:=omega) only[Tryz.f33,dd33,go_sem,simprocAttr,evAppend,AV.cells,mu33,↓AE,↓AC,↓AB,↓AA,hsi',h];exact(by first|rfl|(refine AN rfl (by rfl) (by rfl) (by rfl) ?_ ?_<;>simp[AV.underL,AV.under,MB.under,AD,AI,AG,AF,AL,AM,-map_take]))
 ·intro _;by_cases hbig:1024<L.length
  ·rw[if_pos hbig];simp +contextual (disch:=omega) only[Tryz.f33,dd33,go_sem,simprocAttr,evAppend,AV.cells,mu33,↓AE,↓AC,↓AB,↓AA];exact⟨_,rfl⟩
  ·rw[if_neg hbig];generalize endsR L top=E at *;have hpe:=AG E;simp +contextual (disch:=omega) only[Tryz.f33,dd33,go_sem,simprocAttr,evAppend,AV.cells,mu33,↓AE,↓AC,↓AB,↓AA,h72]
   refine CZ (σ:=Nat) (M:=(mskOf (pol1.mask 33) (pol1.gc 33) (pol1.acts 33) 0 15)) rfl (fun i=>(⟨109,[(11,I i),(10,.ms 1 1 (firsts (colK L E top) i).length 0 (firsts (colK L E top) i).length),(9,.ms 0 1 E.length 0 E.length),(8,.sl false (E.map I)),(1,I top),(0,.sl false (L.map setAV))],[.row 1 (bR E.length fun j=>decide (colK L E top j∈firsts (colK L E top) i)) 0,.row 1 ((outA (colK L E top) (pieceA E top) E.length i).map setAV) 0]⟩:St))
    (fun i=>i<=E.length/\∀ c∈firsts (colK L E top) i,¬ 64<(clsOf (colK L E top) (pieceA E top) c E.length).length) (fun i=>E.length-i) 0 ?_ ⟨zero_le _,fun c h=>by simp[firsts]at h⟩ _ ?_
   ·intro i ⟨hi,hcl⟩;generalize hcol:colK L E top=col at *;generalize hpc:pieceA E top=pc at *;have hfl:=Lv (col:=col) i;have hbl:=Hm E.length fun j=>decide (col j∈firsts col i);by_cases hlt:i<E.length
    ·by_cases hdn:col i∈firsts col i
     ·have hdi:(bR E.length fun j=>decide (col j∈firsts col i))[i]?=some (.bool true):=by rw[LE _ hlt];simp[hdn]
      have hf:firsts col (i+1)=firsts col i:=by simp only[firsts,if_pos hdn]
      simp +contextual (disch:=omega) only[Tryz.f33,dd33,go_sem,simprocAttr,evAppend,AV.cells,mu33,↓AE,↓AC,↓AB,↓AA,hdi,hbl];refine⟨i+1,⟨hlt,by rw[hf];exact hcl⟩,by omega,?_⟩;have ho:outA col pc E.length (i+1)=outA col pc E.length i:=by simp only[outA,hf]
      rw[ho];simp only[hf];exact(by first|rfl|(refine AN rfl (by rfl) (by rfl) (by rfl) ?_ ?_<;>simp[AV.underL,AV.under,MB.under,AD,AI,AG,AF,AL,AM,-map_take,B7,AS]))
     ·have hdi:(bR E.length fun j=>decide (col j∈firsts col i))[i]?=some (.bool false):=by rw[LE _ hlt];simp[hdn]
      have hf:firsts col (i+1)=firsts col i++[col i]:=by simp only[firsts,if_neg hdn]
      obtain⟨e,he⟩:∃ e,E[i]?=some e:=⟨_,getElem?_eq_getElem hlt⟩;have he':(E.map I)[i]?=some (I e):=by simp[he]
      have hce:col i=colA L e:=by rw[<- hcol];unfold colK;rw[BI he]
      have hpb:=B7;simp +contextual (disch:=omega) only[Tryz.f33,dd33,go_sem,simprocAttr,evAppend,AV.cells,mu33,↓AE,↓AC,↓AB,↓AA,hdi,hbl]
      refine CZ (σ:=Nat) (M:=(mskOf (pol1.mask 33) (pol1.gc 33) (pol1.acts 33) 0 20)) rfl (fun k=>(⟨109,[(13,I k),(12,.ms 2 1 E.length 0 E.length),(11,I i),(10,.ms 1 1 (firsts col i).length 0 (firsts col i).length),(9,.ms 0 1 E.length 0 E.length),(8,.sl false (E.map I)),(1,I top),(0,.sl false (L.map setAV))],[.row 1 (bR E.length fun j=>decide (col j∈firsts col i)||(decide (i<=j/\j<k)&&decide (col j=col i))) 0,.row 1 ((outA col pc E.length i).map setAV) 0,.row 1 (bR E.length fun j=>decide (i<=j/\j<k)&&decide (col j=col i)) 0]⟩:St))
       (fun k=>i<=k/\k<=E.length) (fun k=>E.length-k) i ?_ ⟨le_refl _,hi⟩ _ ?_
      ·intro k ⟨hk1,hk2⟩;by_cases hkl:k<E.length
       ·obtain⟨x,hx⟩:∃ x,E[k]?=some x:=⟨_,getElem?_eq_getElem hkl⟩;have hx':(E.map I)[k]?=some (I x):=by simp[hx]
        have hcx:col k=colA L x:=by rw[<- hcol];unfold colK;rw[BI hx]
        have h73:=sf73 L e x (by omega) hsl;rw[<- hce,<- hcx]at h73;have b1:=Hm E.length fun j=>decide (col j∈firsts col i)||(decide (i<=j/\j<k)&&decide (col j=col i));have b2:=Hm E.length fun j=>decide (i<=j/\j<k)&&decide (col j=col i);have b3:=LE (k:=k) (fun j=>decide (col j∈firsts col i)||(decide (i<=j/\j<k)&&decide (col j=col i))) hkl;have b4:=LE (k:=k) (fun j=>decide (i<=j/\j<k)&&decide (col j=col i)) hkl;have b5:=PZ (m:=E.length) (k:=k) (f:=fun j=>decide (i<=j/\j<k)&&decide (col j=col i)) (g:=fun j=>decide (i<=j/\j<k+1)&&decide (col j=col i)) (fun j hj=>by
         by_cases e:j=k
         ·subst e;simp
         ·rw[if_neg e];have:(i<=j/\j<k+1)↔(i<=j/\j<k):=by omega
          simp[this])
        have b6:=PZ (m:=E.length) (k:=k) (f:=fun j=>decide (col j∈firsts col i)||(decide (i<=j/\j<k)&&decide (col j=col i))) (g:=fun j=>decide (col j∈firsts col i)||(decide (i<=j/\j<k+1)&&decide (col j=col i))) (fun j hj=>by
         by_cases e:j=k
         ·subst e;simp
         ·rw[if_neg e];have:(i<=j/\j<k+1)↔(i<=j/\j<k):=by omega
          simp[this])
        have hkk:decide (i<=k/\k<k)=false:=decide_eq_false (by omega);have hkk1:decide (i<=k/\k<k+1)=true:=decide_eq_true (by omega);simp only[hkk,hkk1,Bool.false_and,Bool.true_and,Bool.or_false]at b3 b4 b5 b6;have hsym:decide (col i=col k)=decide (col k=col i):=decide_eq_decide.2 eq_comm;rw[hsym]at h73;cases hq:decide (col k∈firsts col i) with
        | true=>
          rw[hq]at b3 b6;rw[Bool.true_or]at b6;simp +contextual (disch:=omega) only[Tryz.f33,dd33,go_sem,simprocAttr,evAppend,AV.cells,mu33,↓AE,↓AC,↓AB,↓AA,he',hx',h73,b1,b2,b3,b4,b5,b6];repeat' (first|intro _|apply And.intro|(unfold dOk;kernel_rfl)|exact St.beq_refl _|exact AQ|(show altO _ _ _ _=true;kernel_rfl)|(show (_||_)=true;kernel_rfl)|(show (_&&_)=true;kernel_rfl))
          exact⟨k+1,⟨by omega,hkl⟩,by omega,(by first|rfl|(refine AN rfl (by rfl) (by rfl) (by rfl) ?_ ?_<;>simp[AV.underL,AV.under,MB.under,AD,AI,AG,AF,AL,AM,-map_take,B7,AS]))⟩
        | false=>
          rw[hq]at b3 b6;rw[Bool.false_or]at b6;have b7:(bR E.length fun j=>decide (i<=j/\j<k+1)&&decide (col j=col i))[k]?=some (.bool (decide (col k=col i))):=by
           rw[LE _ hkl,hkk1,Bool.true_and]
          have b8:=Hm E.length fun j=>decide (i<=j/\j<k+1)&&decide (col j=col i);simp +contextual (disch:=omega) only[Tryz.f33,dd33,go_sem,simprocAttr,evAppend,AV.cells,mu33,↓AE,↓AC,↓AB,↓AA,he',hx',h73,b1,b2,b3,b4,b5,b6,b7,b8];repeat' (first|intro _|apply And.intro|(unfold dOk;kernel_rfl)|exact St.beq_refl _|exact AQ|(show altO _ _ _ _=true;kernel_rfl)|(show (_||_)=true;kernel_rfl)|(show (_&&_)=true;kernel_rfl))
          exact⟨k+1,⟨by omega,hkl⟩,by omega,(by first|rfl|(refine AN rfl (by rfl) (by rfl) (by rfl) ?_ ?_<;>simp[AV.underL,AV.under,MB.under,AD,AI,AG,AF,AL,AM,-map_take,B7,AS]))⟩
       ·obtain rfl:k=E.length:=by omega
        have h74:=sf74 hE htp ((List.range E.length).map fun j=>decide (i<=j/\j<E.length)&&decide (col j=col i)) (by simp) (by omega);have ho:ofL (pieceA E top) (fun j=>((List.range E.length).map fun j=>decide (i<=j/\j<E.length)&&decide (col j=col i)).getD j false) E.length=clsOf col pc (col i) E.length:=by
         rw[<- Jd,hpc];refine IZ fun j hj=>?_;rw[List.getD_eq_getElem?_getD,getElem?_map,List.getElem?_range hj];simp only[Option.map_some,Option.getD_some];rcases lt_or_ge j i with h|h
         ·have hne:col j≠col i:=fun e2=>hdn (Bm.2 ⟨j,h,e2⟩);simp[hne]
         ·simp[h,hj]
        rw[ho]at h74;have b2:=Hm E.length fun j=>decide (i<=j/\j<E.length)&&decide (col j=col i);have bfz:∀(x y:MB),fz (.ms 2 1 E.length 0 E.length) [x,y,.row 1 (bR E.length fun j=>decide (i<=j/\j<E.length)&&decide (col j=col i)) 0]=some (.sl false (bR E.length fun j=>decide (i<=j/\j<E.length)&&decide (col j=col i)),[x,y,.row 1 (bR E.length fun j=>decide (i<=j/\j<E.length)&&decide (col j=col i)) E.length]):=fun x y=>by
         rw[Az (k:=1) (z:=0) (els:=bR E.length fun j=>decide (i<=j/\j<E.length)&&decide (col j=col i)) rfl b2 (B7 _ _)];rfl
        have h74':∀(x y:MB),call Pg pol1 67 [.sl false (E.map I),.ms 2 1 E.length 0 E.length,I top] [x,y,.row 1 (bR E.length fun j=>decide (i<=j/\j<E.length)&&decide (col j=col i)) 0] =
          some (if 64<(clsOf col pc (col i) E.length).length then .tup [.sl false [],I 4] else .tup [.sl false ((clsOf col pc (col i) E.length).map spanAV),I 0],[x,y,.row 1 (bR E.length fun j=>decide (i<=j/\j<E.length)&&decide (col j=col i)) E.length]):=fun x y=>by
         rw[CM (l:=[.sl false (E.map I),.sl false (bR E.length fun j=>decide (i<=j/\j<E.length)&&decide (col j=col i)),I top]) (H1:=[x,y,.row 1 (bR E.length fun j=>decide (i<=j/\j<E.length)&&decide (col j=col i)) E.length]) rfl ?_ (by simp[AV.plainL,AV.plain,hpe,B7])]
         ·exact h74 _
         ·have h1:pol1.byref 67 0=false:=rfl;have h2:pol1.byref 67 (0+1)=false:=rfl;have h3:pol1.byref 67 (0+1+1)=false:=rfl;simp only[frzArgs,h1,h2,h3,Bool.false_eq_true,if_false,C1 hpe,bfz,Ac _ (show AV.plain (I top)=true from rfl)]
        by_cases h64:64<(clsOf col pc (col i) E.length).length
        ·have hbad:splitA L E top=none:=CD (n:=E.length) (le_refl _) (.inr ⟨col i,Bm.2 ⟨i,hlt,by rw[hcol]⟩,by rw[hcol,hpc];exact h64⟩);rw[hbad];simp only[if_pos h64]at h74';simp +contextual (disch:=omega) only[Tryz.f33,dd33,go_sem,simprocAttr,evAppend,AV.cells,mu33,↓AE,↓AC,↓AB,↓AA,h74',b2];exact⟨_,rfl⟩
        ·simp only[if_neg h64]at h74';have ho2:outA col pc E.length (i+1)=outA col pc E.length i++[clsOf col pc (col i) E.length]:=by simp[outA,hf]
         have hd2:(bR E.length fun j=>decide (col j∈firsts col i)||(decide (i<=j/\j<E.length)&&decide (col j=col i)))=bR E.length fun j=>decide (col j∈firsts col (i+1)):=E8 fun j hj=>by
          rw[hf];by_cases e1:col j=col i
          ·rcases lt_or_ge j i with h|h
           ·exact absurd (Bm.2 ⟨j,h,e1⟩) hdn
           ·simp[e1,h,hj]
          ·simp[e1]
         have a1:=fun(x y:MB) (t:Bool)=>Pc (H:=[x,MB.row 1 ((outA col pc E.length i).map setAV) 0,y]) (i:=1) (p:=clsOf col pc (col i) E.length) (t:=t) rfl (zero_le _) (KX col pc E.length i) (by omega);have hfl2:(firsts col (i+1)).length=(firsts col i).length+1:=by rw[hf];simp
         simp +contextual (disch:=omega) only[Tryz.f33,dd33,go_sem,simprocAttr,AV.cells,mu33,↓AE,↓AC,↓AB,↓AA,h74',b2,a1];refine⟨i+1,⟨hlt,fun c hc=>?_⟩,by omega,?_⟩
         ·rw[hf]at hc;rcases mem_append.1 hc with h|h
          ·exact hcl c h
          ·rw[mem_singleton.1 h];exact h64
         ·rw[hd2,ho2,map_append,hfl2];exact(by first|rfl|(refine AN rfl (by rfl) (by rfl) (by rfl) ?_ ?_<;>simp[AV.underL,AV.under,MB.under,AD,AI,AG,AF,AL,AM,-map_take,B7,AS,AW]))
      ·have e1:(bR E.length fun j=>decide (col j∈firsts col i)||(decide (i<=j/\j<i)&&decide (col j=col i)))=bR E.length fun j=>decide (col j∈firsts col i):=E8 fun j hj=>by
        have:decide (i<=j/\j<i)=false:=decide_eq_false (by omega);simp[this]
       have e2:(bR E.length fun j=>decide (i<=j/\j<i)&&decide (col j=col i))=bR E.length fun _=>false:=E8 fun j hj=>by
        have:decide (i<=j/\j<i)=false:=decide_eq_false (by omega);simp[this]
       rw[Pa,e1,e2];exact(by first|rfl|(refine AN rfl (by rfl) (by rfl) (by rfl) ?_ ?_<;>simp[AV.underL,AV.under,MB.under,AD,AI,AG,AF,AL,AM,-map_take,B7,AS]))
    ·obtain rfl:i=E.length:=by omega
     by_cases hmany:1024<(firsts col E.length).length
     ·have hbad:splitA L E top=none:=CD (n:=E.length) (le_refl _) (.inl (by rw[hcol];exact hmany));rw[hbad];simp +contextual (disch:=omega) only[Tryz.f33,dd33,go_sem,simprocAttr,evAppend,AV.cells,mu33,↓AE,↓AC,↓AB,↓AA];exact⟨_,rfl⟩
     ·have hok:splitA L E top=some (outA col pc E.length E.length):=by
       rw[FC (by
        rw[hcol,hpc];rintro(h|⟨c,hc,h⟩)
        ·exact hmany h
        ·exact hcl c hc h),hcol,hpc]
       rfl
      rw[hok];have hol:=KX col pc E.length E.length;simp +contextual (disch:=omega) only[Tryz.f33,dd33,go_sem,simprocAttr,evAppend,AV.cells,mu33,↓AE,↓AC,↓AB,↓AA];exact HA (k:=1) (z:=0) (els:=(outA col pc E.length E.length).map setAV) rfl (by rw[length_map];exact hol) (AS _)
   ·rw[Pa];have:(bR E.length fun _=>false)=bR E.length fun j=>decide (colK L E top j∈firsts (colK L E top) 0):=E8 fun j _=>by simp[firsts]
    rw[this];exact(by first|rfl|(refine AN rfl (by rfl) (by rfl) (by rfl) ?_ ?_<;>simp[AV.underL,AV.under,MB.under,AD,AI,AG,AF,AL,AM,-map_take,B7,AS]))
theorem Bl (a b:List (Int×Int)) (x:Int):hasSpan (a++b) x=(hasSpan a x||hasSpan b x):=by simp[hasSpan]
theorem Ji {a b:List (Int×Int)} (h:a.Perm b) (x:Int):hasSpan a x=hasSpan b x:=by
 rw[Bool.eq_iff_iff];simp only[hasSpan,any_eq_true];exact⟨fun⟨p,hp,hx⟩=>⟨p,h.mem_iff.1 hp,hx⟩,fun⟨p,hp,hx⟩=>⟨p,h.mem_iff.2 hp,hx⟩⟩
def goodS (p:Int×Int):Prop:=0<=p.1/\p.1<=p.2/\p.2<=1114111
structure SetOk (s O:List (Int×Int)):Prop where
 sep:O.Pairwise fun p q=>p.2+2<=q.1
 good:∀ p∈O,goodS p
 has:∀ x,hasSpan O x=hasSpan s x
 len:O.length<=s.length
 last:∀ q,O.getLast?=some q->∃ p∈s,p.1=q.1
theorem SetOk.nil:SetOk [] []:=⟨.nil,fun _ h=>by simp at h,fun _=>rfl,le_refl _,fun _ h=>by simp at h⟩
theorem SetOk.add {s O:List (Int×Int)} (h:SetOk s O) {p:Int×Int} (hg:goodS p) (hle:∀ q∈s,q.1<=p.1):SetOk (s++[p]) (addI O p):=by
 obtain⟨hg0,hg1,hg2⟩:=hg;rcases List.eq_nil_or_concat O with rfl|⟨O',q,rfl⟩
 ·rw[DJ];have h0:=h.has;refine⟨List.pairwise_singleton _ _,fun r hr=>by rw[mem_singleton.1 hr];exact⟨hg0,hg1,hg2⟩,fun x=>?_,by simp,fun q hq=>⟨p,by simp,by simp at hq;rw[hq]⟩⟩;rw[Bl,<- h0 x];simp[hasSpan]
 ·rw[List.concat_eq_append]at *;obtain⟨p0,hp0,e0⟩:=h.last q (by simp);have hqp:=hle p0 hp0;have hgq:=h.good q (by simp);obtain⟨k1,k2,k3⟩:=hgq;have hsep:=List.pairwise_append.1 h.sep;rw[CP];split
  ·rename_i hm;refine⟨List.pairwise_append.2 ⟨hsep.1,List.pairwise_singleton _ _,fun a ha b hb=>?_⟩,fun r hr=>?_,fun x=>?_,?_,fun r hr=>⟨p0,by simp[hp0],by simp at hr;rw[<- hr];exact e0⟩⟩
   ·rw[mem_singleton.1 hb];exact hsep.2.2 a ha q (by simp)
   ·rcases mem_append.1 hr with hr|hr
    ·exact h.good r (by simp[hr])
    ·rw[mem_singleton.1 hr];exact⟨k1,by show q.1<=max q.2 p.2;omega,by show max q.2 p.2<=_;omega⟩
   ·have:=h.has x;rw[Bl]at this |-;rw[Bl,<- this,Bool.or_assoc];congr 1;rw[Bool.eq_iff_iff];simp[hasSpan];omega
   ·have:=h.len;simp at this |-;omega
  ·rename_i hm;refine⟨List.pairwise_append.2 ⟨h.sep,List.pairwise_singleton _ _,fun a ha b hb=>?_⟩,fun r hr=>?_,fun x=>?_,?_,fun r hr=>⟨p,by simp,by simp at hr;rw[hr]⟩⟩
   ·rw[mem_singleton.1 hb];rcases mem_append.1 ha with ha|ha
    ·have:=hsep.2.2 a ha q (by simp);omega
    ·rw[mem_singleton.1 ha];omega
   ·rcases mem_append.1 hr with hr|hr
    ·exact h.good r hr
    ·rw[mem_singleton.1 hr];exact⟨hg0,hg1,hg2⟩
   ·rw[Bl,h.has x,Bl]
   ·have:=h.len;simp at this |-;omega
def foldI (s:List (Int×Int)):List (Int×Int):=s.foldl addI []
theorem HD (s:List (Int×Int)) (p:Int×Int):foldI (s++[p])=addI (foldI s) p:=by simp[foldI]
theorem Lt {s:List (Int×Int)}{i:Nat}{p:Int×Int} (h:s[i]?=some p):foldI (s.take (i+1))=addI (foldI (s.take i)) p:=by
 rw[take_add_one,h];exact HD _ _
theorem Kq {s:List (Int×Int)} (hs:s.Pairwise fun p q=>p.1<=q.1) (hg:∀ p∈s,goodS p):∀ i,i<=s.length->SetOk (s.take i) (foldI (s.take i)):=by
 intro i
 induction i with
 | zero=>intro _;exact SetOk.nil
 | succ i ih=>
   intro hi;obtain⟨p,hp⟩:∃ p,s[i]?=some p:=⟨_,getElem?_eq_getElem (by omega)⟩;have hpm:=mem_of_getElem? hp;have:=(ih (by omega)).add (p:=p) (hg p hpm) (fun q hq=>by
    obtain⟨k,hk,e⟩:=List.getElem_of_mem hq;simp at hk e;have h1:=List.pairwise_iff_getElem.1 hs k i (by omega) (by omega) (by omega);rw[(List.getElem?_eq_some_iff.1 hp).2,e]at h1;exact h1)
   rw[take_add_one,hp]
   simpa [HD] using this
def normL (s:List (Int×Int)):List (Int×Int):=foldI (sortE s)
theorem G9 {s:List (Int×Int)} (hg:∀ p∈s,goodS p):∀ x∈s,Small x:=fun x hx=>by
 have:=hg x hx;unfold goodS at this;unfold Small;omega
theorem Cl {s:List (Int×Int)} (hg:∀ p∈s,goodS p):SetOk (sortE s) (normL s)/\(∀ x,hasSpan (normL s) x=hasSpan s x)/\(normL s).length<=s.length:=by
 have hsm:=G9 hg;have hp:=DN hsm;have h:=Kq (DM s) (fun p hp2=>hg p (hp.mem_iff.1 hp2)) (sortE s).length (le_refl _);rw[take_length]at h;refine⟨h,fun x=>?_,?_⟩
 ·rw[normL,h.has x];exact Ji hp x
 ·have:=h.len;rw[hp.length_eq]at this;exact this
theorem Fo {l:List (Int×Int)} (hs:l.Pairwise fun p q=>p.2+2<=q.1) (hg:∀ p∈l,goodS p) (hl:l.length<=64):refSpans l=0:=by
 have hb:∀ i,i<l.length->badAt l i=false:=fun i hi=>by
  have e:=getElem?_eq_getElem hi;have:=hg _ (List.getElem_mem hi);unfold goodS at this;unfold badAt;rw[e];simp only[Bool.or_eq_false_iff,Bool.not_eq_false',decide_eq_true_eq];refine⟨⟨this.1,this.2.1,this.2.2⟩,?_⟩;cases i with
  | zero=>rfl
  | succ k=>
    have e2:=getElem?_eq_getElem (show k<l.length by omega);simp only[e2];have:=List.pairwise_iff_getElem.1 hs k (k+1) (by omega) hi (by omega);simp;omega
 unfold refSpans;rw[if_neg,if_neg (by omega)];simp only[any_eq_true,mem_range,not_exists,not_and,Bool.not_eq_true];exact hb
end Go.Ev
namespace Go.Ev
theorem Bk {s:List (Int×Int)}{x:Int}:hasSpan s x=true↔∃ p∈s,p.1<=x/\x<=p.2:=by
 unfold hasSpan;rw[any_eq_true];constructor
 ·rintro⟨p,h1,h2⟩;exact⟨p,h1,by simpa using h2⟩
 ·rintro⟨p,h1,h2⟩;exact⟨p,h1,by simpa using h2⟩
structure NormS (s:List (Int×Int)):Prop where
 gap:s.Pairwise fun p q=>p.2+1<q.1
 val:∀ p∈s,p.1<=p.2
theorem NormS.tail {p:Int×Int}{s:List (Int×Int)} (h:NormS (p::s)):NormS s:=⟨(pairwise_cons.1 h.gap).2,fun q hq=>h.val q (by simp[hq])⟩
theorem Ay {p:Int×Int}{s:List (Int×Int)}{x:Int}:hasSpan (p::s) x=true↔(p.1<=x/\x<=p.2)∨hasSpan s x=true:=by
 rw[Bk,Bk];constructor
 ·rintro⟨q,hq,h⟩;rcases mem_cons.1 hq with e|e
  ·subst e;exact .inl h
  ·exact .inr ⟨q,e,h⟩
 ·rintro(h|⟨q,hq,h⟩)
  ·exact⟨p,by simp,h⟩
  ·exact⟨q,by simp[hq],h⟩
theorem NormS.above {p:Int×Int}{s:List (Int×Int)} (h:NormS (p::s)) {x:Int} (hx:hasSpan s x=true):p.2+1<x:=by
 obtain⟨q,hq,h1,h2⟩:=Bk.1 hx;have:=(pairwise_cons.1 h.gap).1 q hq;omega
theorem FG:∀ {s t:List (Int×Int)},NormS s->NormS t->(∀ x,hasSpan s x=true↔hasSpan t x=true)->s=t
 | [],[],_,_,_=>rfl
 | [],q::t,_,ht,h=>by
   have:=(h q.1).2 (Ay.2 (.inl ⟨Int.le_refl _,ht.val q (by simp)⟩));cases this
 | p::s,[],hs,_,h=>by
   have:=(h p.1).1 (Ay.2 (.inl ⟨Int.le_refl _,hs.val p (by simp)⟩));cases this
 | p::s,q::t,hs,ht,h=>by
   have vp:=hs.val p (by simp);have vq:=ht.val q (by simp);have lo:∀ {a b:Int×Int}{u v:List (Int×Int)},NormS (a::u)->NormS (b::v)->(hasSpan (b::v) a.1=true)->b.1<=a.1:=by
    intro a b u v h1 h2 h3;have:=h2.val b (by simp);rcases Ay.1 h3 with h4|h4
    ·exact h4.1
    ·have:=h2.above h4;omega
   have e1:p.1=q.1:=by
    have a1:=lo hs ht ((h p.1).1 (Ay.2 (.inl ⟨Int.le_refl _,vp⟩)));have a2:=lo ht hs ((h q.1).2 (Ay.2 (.inl ⟨Int.le_refl _,vq⟩)));omega
   have e2:p.2=q.2:=by
    rcases Int.lt_trichotomy p.2 q.2 with g|g|g
    ·exfalso;have:=(h (p.2+1)).2 (Ay.2 (.inl ⟨by omega,by omega⟩));rcases Ay.1 this with h4|h4
     ·omega
     ·have:=hs.above h4;omega
    ·exact g
    ·exfalso;have:=(h (q.2+1)).1 (Ay.2 (.inl ⟨by omega,by omega⟩));rcases Ay.1 this with h4|h4
     ·omega
     ·have:=ht.above h4;omega
   have e3:s=t:=FG hs.tail ht.tail fun x=>by
    constructor
    ·intro hx;have g:=hs.above hx;rcases Ay.1 ((h x).1 (Ay.2 (.inr hx))) with h4|h4
     ·omega
     ·exact h4
    ·intro hx;have g:=ht.above hx;rcases Ay.1 ((h x).2 (Ay.2 (.inr hx))) with h4|h4
     ·omega
     ·exact h4
   rw[e3,show p=q from Prod.ext e1 e2]
theorem Dy {s:Spans} (h:s.Pairwise fun p q=>p.2+2<=q.1) (hg:∀ p∈s,p.1<=p.2):NormS s:=⟨h.imp fun h=>by omega,hg⟩
theorem AZ {α:Type}{s:List α}{k:Nat}{p:α} (h:s[k]?=some p):s.take (k+1)=s.take k++[p]:=by
 rw[take_add_one,h];rfl
section
variable {L:List Spans}{E:List Int}{top:Int}
abbrev Sy (top x:Int):Prop:=0<=x/\x<=top
theorem KW (h:EndsOk top E) {x:Int} (h0:0<=x):∀ n,n<=E.length->x<lastP E top n->∃ k,k<n/\lastP E top k<=x/\x<lastP E top (k+1)
 | 0,_,hx=>by
   rw[BI h.first]at hx;omega
 | n+1,hn,hx=>by
   rcases Int.lt_or_le x (lastP E top n) with h1|h1
   ·obtain⟨k,a,b⟩:=KW h h0 n (by omega) h1;exact⟨k,by omega,b⟩
   ·exact⟨n,by omega,h1,hx⟩
theorem Og (h:EndsOk top E) {x:Int} (hx:Sy top x):∃ k,k<E.length/\lastP E top k<=x/\x<lastP E top (k+1):=
 KW h hx.1 E.length (le_refl _) (by rw[B6 (le_refl _)];have:=hx.2;omega)
theorem Ky (h:EndsOk top E) {k:Nat}{e:Int} (he:e∈E) (hk:lastP E top k<e):lastP E top (k+1)<=e:=by
 obtain⟨j,hj⟩:=getElem?_of_mem he;have hjl:=(List.getElem?_eq_some_iff.1 hj).1;have e1:=BI (top:=top) hj;rcases Nat.lt_trichotomy j k with g|g|g
 ·rcases lt_or_ge k E.length with g2|g2
  ·have:=h.mono g (by omega);omega
  ·have:=(h.le e he).2;rw[B6 g2]at hk;omega
 ·subst g;omega
 ·rcases Nat.lt_or_eq_of_le (show k+1<=j from g) with g2|g2
  ·have:=h.mono g2 (by omega);omega
  ·rw[g2];omega
def rawOf (col:Nat->List Bool) (pc:Nat->Int×Int) (c:List Bool):Nat->Spans
 | 0=>[]
 | n+1=>if col n=c then rawOf col pc c n++[pc n] else rawOf col pc c n
theorem Dz {col:Nat->List Bool}{pc:Nat->Int×Int}{c:List Bool}{p:Int×Int}:∀ {n:Nat},p∈rawOf col pc c n↔∃ k,k<n/\col k=c/\pc k=p
 | 0=>by simp[rawOf]
 | n+1=>by
   have ih:=Dz (col:=col) (pc:=pc) (c:=c) (p:=p) (n:=n);rw[rawOf];split
   ·rename_i hc;rw[mem_append,ih,mem_singleton];constructor
    ·rintro(⟨k,a,b⟩|rfl)
     ·exact⟨k,by omega,b⟩
     ·exact⟨n,by omega,hc,rfl⟩
    ·rintro⟨k,a,b,d⟩;rcases lt_or_ge k n with g|g
     ·exact .inl ⟨k,g,b,d⟩
     ·obtain rfl:k=n:=by omega
      exact .inr d.symm
   ·rename_i hc;rw[ih];constructor
    ·rintro⟨k,a,b⟩;exact⟨k,by omega,b⟩
    ·rintro⟨k,a,b,d⟩;rcases lt_or_ge k n with g|g
     ·exact⟨k,g,b,d⟩
     ·obtain rfl:k=n:=by omega
      exact absurd b hc
theorem Mp (h:EndsOk top E) (htp:top<=1114111) (col:Nat->List Bool) (c:List Bool):∀ n,n<=E.length->SetOk (rawOf col (pieceA E top) c n) (clsOf col (pieceA E top) c n)
 | 0,_=>.nil
 | n+1,hn=>by
   have ih:=Mp h htp col c n (by omega);rw[rawOf,clsOf];split
   ·have hst:=h.step (k:=n) (by omega);refine ih.add ⟨hst.2.1,by simp only[pieceA];omega,by simp only[pieceA];omega⟩ fun q hq=>?_;obtain⟨k,hk,_,rfl⟩:=Dz.1 hq;have:=h.mono hk (by omega);simp only[pieceA];omega
   ·exact ih
end
theorem Ad (l:List Bool):AV.plainL (l.map AV.bool)=true:=by
 induction l with
 | nil=>rfl
 | cons a l ih=>simp[AV.plainL,AV.plain,ih]
theorem Pf {H:List MB}{i n z:Nat}{rs:List Bool}{x:Bool}{t:Bool} (hi:getRow H i=some (1,rs.map AV.bool,z)) (hz:z<=n) (hn:rs.length=n) (hr:n+1<=4000000000) :
  evAppend Pg H 35 35 (.ms i 1 n 0 n) (.sl t [.bool x])=some (.ms i 1 (n+1) 0 (n+1),H.set i (.row 1 ((rs++[x]).map AV.bool) z)):=by
 have hs:srcElems Pg H 4 (.sl t [.bool x])=some [.bool x]:=rfl;rw[Ai (e:=4) (by kernel_rfl) (by kernel_rfl) (k:=1) (by kernel_rfl) (by_:=1) (by kernel_rfl) (ze:=.bool false) (by kernel_rfl) rfl (by omega) hs (by simp[AV.cells,AV.ok]) hi (by rw[length_map];exact hn) hz (Ae (by simp;omega) (by omega))];rw[map_append];rfl
end Go.Ev
namespace Go.Ev
abbrev emptyR:Re:=.mk 0 [] [] 0 0 0 0 false
abbrev setR (s:List (Int×Int)):Re:=.mk 1 s [] 0 0 0 0 false
abbrev nothR:Re:=setR []
def isNoth (r:Re):Bool:=decide (r.op=1)&&decide (r.set.length=0)
def joinR (op:Int) (l:List Re) (z:Re):Re:=match l with
 | []=>z
 | [x]=>x
 | x::y::l=>.mk op [] (x::y::l) 0 0 0 0 false
def flatR (op:Int) (l:List Re):List Re:=l.flatMap fun k=>if k.op=op then k.sub else [k]
theorem HF {op:Int}{l:List Re}{k:Re}:flatR op (l++[k])=flatR op l++(if k.op=op then k.sub else [k]):=by
 simp[flatR]
theorem Lu {op:Int}{l:List Re}{i:Nat}{k:Re} (h:l[i]?=some k):flatR op (l.take (i+1))=flatR op (l.take i)++(if k.op=op then k.sub else [k]):=by
 rw[AZ h,HF]
theorem Re.wtL_app:∀(a b:List Re),Re.wtL (a++b)=Re.wtL a+Re.wtL b
 | [],b=>by simp[Re.wtL]
 | k::ks,b=>by simp[Re.wtL,Re.wtL_app ks b];omega
theorem Re.wt_sub (r:Re):1+r.set.length+Re.wtL r.sub=r.wt:=by cases r;simp[Re.wt,Re.set,Re.sub]
theorem B9 (op:Int):∀ l:List Re,Re.wtL (flatR op l)<=Re.wtL l
 | []=>le_refl _
 | k::l=>by
   have ih:=B9 op l;have hs:=Re.wt_sub k;have e:flatR op (k::l)=(if k.op=op then k.sub else [k])++flatR op l:=by simp[flatR]
   rw[e,Re.wtL_app];split<;>simp only[Re.wtL]<;>omega
def catR (l:List Re):Re:=if(l.filter fun r=>!decide (r.op=0)).any isNoth then nothR else joinR 2 (l.filter fun r=>!decide (r.op=0)) emptyR
def spansOf (l:List Re):List (Int×Int):=l.flatMap fun k=>if k.op=1 then k.set else []
theorem Ei {l:List Re}{i:Nat}{k:Re} (h:l[i]?=some k):spansOf (l.take (i+1))=spansOf (l.take i)++(if k.op=1 then k.set else []):=by
 rw[AZ h];simp[spansOf]
def othersOf (l:List Re):List Re:=l.filter fun k=>!decide (k.op=1)
theorem EE {l:List Re}{i:Nat}{k:Re} (h:l[i]?=some k):othersOf (l.take (i+1))=othersOf (l.take i)++(if k.op=1 then [] else [k]):=by
 rw[AZ h];by_cases hk:k.op=1<;>simp[othersOf,hk]
def altBad (l:List Re):Bool:=decide (64<(normL (spansOf l)).length)
def altL (l:List Re):List Re:=othersOf l++(if altBad l=true∨normL (spansOf l)=[] then [] else [setR (normL (spansOf l))])
def altR (l:List Re):Re:=joinR 3 (putAll [] (altL l)) nothR
def repR (mn mx:Int) (k:Re):Re:=match k with
 | .mk op set kids kmn kmx md n neg=>
   if op=0∨(isNoth k=true/\mn=0) then emptyR else if isNoth k=true∨(op=4/\kmn=0/\kmx = -1)∨(mn=1/\mx=1) then k else .mk 4 [] [k] mn mx 0 0 false
def formN (op:Int) (set:List (Int×Int)) (ks:List Re) (mn mx:Int):Re:=
 if op=1 then setR set else if op=2 then catR (flatR 2 ks) else if op=3 then altR (flatR 3 ks) else if op=4 then repR mn mx (ks.headD emptyR) else if op=5 then ks.headD emptyR else emptyR
mutual
def nf:Re->Re
 | .mk op set kids mn mx md n neg=>formN op set (nfL kids) mn mx
def nfL:List Re->List Re
 | []=>[]
 | k::ks=>nf k::nfL ks
end
theorem Be:∀ l:List Re,nfL l=l.map nf
 | []=>rfl
 | k::l=>by rw[nfL,Be l];rfl
mutual
def badR:Re->Bool
 | .mk op set kids mn mx md n neg=>badRL kids||(decide (op=3)&&altBad (flatR 3 (nfL kids)))
def badRL:List Re->Bool
 | []=>false
 | k::ks=>badR k||badRL ks
end
theorem CO:∀ l:List Re,badRL l=l.any badR
 | []=>rfl
 | k::l=>by rw[badRL,CO l];rfl
theorem C5:∀(n:Nat) (l:List Re),l.length<=n->l.Pairwise (fun a b=>cmpR a b<=0)->(compactR l).Pairwise ltR/\(∀ x,x∈compactR l↔x∈l)
 | _,[],_,_=>by simp[compactR]
 | _,[x],_,_=>by simp[compactR]
 | n+1,x::y::l,hl,h=>by
   obtain⟨h1,h2⟩:=pairwise_cons.1 h;obtain⟨h3,h4⟩:=pairwise_cons.1 h2;rw[compactR];split
   ·rename_i g;obtain rfl:=BN g;obtain⟨a1,a2⟩:=C5 n (x::l) (by simp at hl |-;omega) (pairwise_cons.2 ⟨h3,h4⟩);refine⟨a1,fun z=>?_⟩;rw[a2 z];simp
   ·rename_i g;obtain⟨a1,a2⟩:=C5 n (y::l) (by simp at hl |-;omega) h2;refine⟨pairwise_cons.2 ⟨fun z hz=>?_,a1⟩,fun z=>?_⟩
    ·have hxy:=h1 y (by simp);have lxy:ltR x y:=by
      unfold ltR;rcases CB x y with e|e|e
      ·exact e
      ·exact absurd e g
      ·omega
     rcases mem_cons.1 ((a2 z).1 hz) with rfl|e
     ·exact lxy
     ·have hyz:=h3 z e;rcases CB y z with e2|e2|e2
      ·exact CJ lxy e2
      ·rw[<- BN e2];exact lxy
      ·omega
    ·rw[mem_cons,a2 z,mem_cons (a:=z) (b:=x)]
theorem J0 (l:List Re):compactR (sortR l)=putAll [] l:=by
 obtain⟨h1,h2⟩:=C5 _ (sortR l) (le_refl _) (Ek l);refine Du h1 (Bx (by simp)) fun x=>?_;rw[h2 x,CE,(DL l).mem_iff];simp
end Go.Ev
