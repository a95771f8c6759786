/- What functions of the program compute; no further conditions. -/
import Derived.Test.YtdklnlnbemogbaaGreatK20
set_option linter.unusedVariables false
set_option linter.unusedSimpArgs false
open List (append_nil getElem?_map length_append length_map map_append map_cons map_nil map_take nil_append take_add_one take_length)
open Nat (le_refl lt_or_ge zero_add zero_le)
open Go.Proofs Go.RowKit Go.IntWalk
set_option maxHeartbeats 4000000
set_option maxRecDepth 100000
namespace Go.Ev
attribute [local go_sem] evBin strOf An As bndO bnd evEq eqCells not_false_eq_true not_true_eq_false toList_some Array.size_empty tySzE List.head?_drop Nat.mul_one Ac Aj Aa Ad Ae AW
section
attribute [local go_sem] length_append map_append
theorem Gq {H:List MB}{i n k z:Nat}{rs ys:List Int}{t:Bool} (hi:getRow H i=some (1,rs.map I,z)) (hz:z<=n) (hn:rs.length=n) (hk:ys.length=k) (hr:n+k<=4000000000) :
  evAppend Pg H 22 22 (.ms i 1 n 0 n) (.sl t (ys.map I))=some (.ms i 1 (n+k) 0 (n+k),H.set i (.row 1 ((rs++ys).map I) z)):=by
 have hs:srcElems Pg H 3 (.sl t (ys.map I))=some (ys.map I):=rfl;rw[Ag (e:=3) (by kernel_rfl) (by kernel_rfl) (k:=1) (by kernel_rfl) (by_:=8) (by kernel_rfl) (ze:=I 0) (by kernel_rfl) rfl (by omega) hs (by simp[AV.cells,AV.ok]) hi (by rw[length_map];exact hn) hz (AW (by simp;omega) (by omega))];rw[map_append,length_map,hk]
theorem MO {id tot z:Nat}{H:List MB}{els r:List AV}{l:List Int} (hr:getRow H id=some (1,els,z)) (he:els=l.map I) (h1:l.length=tot) (h2:r=l.map I):∃ H',fz (.ms id 1 tot 0 tot) H=some (.sl false r,H'):=by
 subst he h2;exact⟨_,Av hr (by rw[length_map];exact h1) (AF _)⟩
abbrev setAV (s:Spans):AV:=.sl false (s.map spanAV)
theorem Ak (L:List Spans):AV.plainL (L.map setAV)=true:=by
 induction L with
 | nil=>rfl
 | cons a l ih=>simp[AV.plainL,AV.plain,AH,ih]
theorem QQ (l:List Int) (n top:Int) (hs:l.Pairwise (·< ·)) (hl:l.length<=1000000000) (H:List MB):call Pg pol1 174 [.sl false (l.map I),I n,I top] H=some (.sl false ((putL l n top).map I),H):=by
 have hpl:=AF l;refine AQ Tryz.func174 rfl rfl rfl rfl rfl rfl (fun _=>rfl) (by simp[AV.plain,AV.plainL,hpl]) (by simp[AV.plain,AF]) ?_ H;simp +contextual (disch:=omega) only[Tryz.f174,G6,go_sem,simprocAttr,evAppend,AV.cells,Gz];refine BR (σ:=Nat) (M:=(Ms 174 2)) rfl (fun k=>(⟨54,[(7,I k),(2,I top),(1,I n),(0,.sl false (l.map I))],[]⟩:St)) (fun k=>k<=l.length/\∀ i x,i<k->l[i]?=some x->x<n) (fun k=>l.length-k) 0 ?_ ⟨zero_le _,fun i x h=>by omega⟩ _ (by first|rfl|(refine AO rfl (by rfl) (by rfl) (by rfl) ?_ ?_<;>simp[AV.underL,AV.under,MB.under,AG,AJ,AF,AH,AK,AM,-map_take]));intro k ⟨hk,hb⟩;have fin:(∀ x,l[k]?=some x->n<=x)->l.filter (fun x=>decide (x<n))=l.take k/\((∀ x,l[k]?=some x->n<x)->l.filter (fun x=>decide (n<x))=l.drop k/\n ∉ l):=by
  intro hx;have h1:∀ x∈l.take k,x<n:=fun x hm=>by
   obtain⟨i,hi⟩:=List.getElem?_of_mem hm;rw[List.getElem?_take]at hi;split at hi
   ·exact hb i x (by assumption) hi
   ·cases hi
  have hle:∀ x∈l.drop k,∃ y,l[k]?=some y/\y<=x:=fun x hm=>by
   obtain⟨i,hi⟩:=List.getElem?_of_mem hm;rw[List.getElem?_drop]at hi;have hlt:=(zgb.1 hi).1;obtain⟨y,hy⟩:∃ y,l[k]?=some y:=⟨_,zga (by omega)⟩;refine⟨y,hy,?_⟩;rcases Nat.eq_zero_or_pos i with rfl|h0
   ·rw[Nat.add_zero,hy]at hi;rw[Option.some.inj hi];exact Int.le_refl _
   ·obtain⟨q1,e1⟩:=zgb.1 hy;have:=List.pairwise_iff_getElem.1 hs k (k+i) q1 hlt (by omega);rw[e1,(zgb.1 hi).2]at this;omega
  have h2:∀ x∈l.drop k,n<=x:=fun x hm=>by
   obtain⟨y,hy,h3⟩:=hle x hm;have:=hx y hy;omega
  refine⟨?_,fun hx2=>⟨?_,fun hm=>?_⟩⟩
  ·conv=>lhs;rw[<- List.take_append_drop k l,List.filter_append]
   rw[List.filter_eq_self.2 (fun x hm=>by simpa using h1 x hm),List.filter_eq_nil_iff.2 (fun x hm=>by have:=h2 x hm;simp;omega),append_nil]
  ·conv=>lhs;rw[<- List.take_append_drop k l,List.filter_append]
   rw[List.filter_eq_nil_iff.2 (fun x hm=>by have:=h1 x hm;simp;omega),List.filter_eq_self.2 (fun x hm=>by
    obtain⟨y,hy,h3⟩:=hle x hm;have:=hx2 y hy;simp;omega),nil_append]
  ·rw[<- List.take_append_drop k l]at hm;rcases List.mem_append.1 hm with hm|hm
   ·have:=h1 n hm;omega
   ·obtain⟨y,hy,h3⟩:=hle n hm;have:=hx2 y hy;omega
 have hal:((l.map I).all fun y=>decide (y.cells.length=1))=true:=by simp[AV.cells]
 have hci:∀ x:Int,(I x).cells=[I x]:=fun x=>rfl;have htk:List.take l.length (l.map I)=l.map I:=List.take_of_length_le (by simp);have out:∀(H0:List MB),(∀ x,l[k]?=some x->n<x)->¬ n > top->putL l n top=l.take k++[n]++l.drop k:=fun _ hx2 ht=>by
  obtain⟨e1,e2⟩:=fin (fun x hx=>Int.le_of_lt (hx2 x hx));obtain⟨e2,e3⟩:=e2 hx2;unfold putL;rw[if_neg (by rintro(h|h);exact ht h;exact e3 h),e1,e2]
 by_cases hlt:k<l.length
 ·obtain⟨x,hx⟩:∃ x,l[k]?=some x:=⟨_,zga hlt⟩;have hx':(l.map I)[k]?=some (I x):=by simp[hx]
  rcases Int.lt_trichotomy x n with h1|h1|h1
  ·simp +contextual (disch:=omega) only[Tryz.f174,G6,go_sem,simprocAttr,evAppend,AV.cells,Gz,hx'];exact⟨k+1,⟨hlt,fun i y hi hy=>by
    rcases Nat.lt_succ_iff_lt_or_eq.1 hi with h2|rfl
    ·exact hb i y h2 hy
    ·rw[hx]at hy;rw[<- Option.some.inj hy];exact h1⟩,by omega,(by first|rfl|(refine AO rfl (by rfl) (by rfl) (by rfl) ?_ ?_<;>simp[AV.underL,AV.under,MB.under,AG,AJ,AF,AH,AK,AM,-map_take]))⟩
  ·have hm:putL l n top=l:=by
    unfold putL;rw[if_pos (.inr (by rw[<- h1];exact zgc hx))]
   rw[hm];by_cases ht:n > top
   ·simp +contextual (disch:=omega) only[Tryz.f174,G6,go_sem,simprocAttr,evAppend,AV.cells,Gz,hx'];exact fzEq (by simp[AV.plain,hpl]) rfl
   ·simp +contextual (disch:=omega) only[Tryz.f174,G6,go_sem,simprocAttr,evAppend,AV.cells,Gz,hx'];exact fzEq (by simp[AV.plain,hpl]) rfl
  ·by_cases ht:n > top
   ·have hm:putL l n top=l:=by
     unfold putL;rw[if_pos (.inl ht)]
    rw[hm];simp +contextual (disch:=omega) only[Tryz.f174,G6,go_sem,simprocAttr,evAppend,AV.cells,Gz,hx'];exact fzEq (by simp[AV.plain,hpl]) rfl
   ·rw[out [] (fun y hy=>by rw[hx]at hy;rw[<- Option.some.inj hy];exact h1) ht];have a1:=fun(t:Bool)=>Gq (H:=[MB.row 1 [] 0]) (i:=0) (rs:=[]) (ys:=l.take k) (t:=t) rfl (zero_le _) rfl (List.length_take_of_le (Nat.le_of_lt hlt)) (by simp;omega);have a2:=fun(t:Bool)=>Gq (H:=[MB.row 1 ((l.take k).map I) 0]) (i:=0) (rs:=l.take k) (ys:=[n]) (t:=t) rfl (zero_le _) (List.length_take_of_le (Nat.le_of_lt hlt)) rfl (by simp;omega);have a3:=fun(t:Bool)=>Gq (H:=[MB.row 1 ((l.take k++[n]).map I) 0]) (i:=0) (n:=k+1) (rs:=l.take k++[n]) (ys:=l.drop k) (t:=t) rfl (zero_le _) (by simp;omega) rfl (by simp;omega);simp only[List.length_nil,zero_add,nil_append,map_take,List.map_drop,map_nil,map_cons,map_append,List.set_cons_zero]at a1 a2 a3;simp +contextual (disch:=omega) only[Tryz.f174,G6,go_sem,simprocAttr,Gz,hx',a1,a2,a3,hal,htk,hci];exact MO (z:=0) (els:=List.take k (l.map I)++[I n]++List.drop k (l.map I)) (l:=l.take k++[n]++l.drop k) rfl (by simp) (by simp;omega) (by simp)
 ·obtain rfl:k=l.length:=by omega
  have hge:∀ x,l[l.length]?=some x->n<x:=fun x hx=>by simp at hx
  by_cases ht:n > top
  ·have hm:putL l n top=l:=by
    unfold putL;rw[if_pos (.inl ht)]
   rw[hm];simp +contextual (disch:=omega) only[Tryz.f174,G6,go_sem,simprocAttr,evAppend,AV.cells,Gz];exact fzEq (by simp[AV.plain,hpl]) rfl
  ·rw[out [] hge ht];have a1:=fun(t:Bool)=>Gq (H:=[MB.row 1 [] 0]) (i:=0) (rs:=[]) (ys:=l) (t:=t) rfl (zero_le _) rfl rfl (by simp;omega);have a2:=fun(t:Bool)=>Gq (H:=[MB.row 1 (l.map I) 0]) (i:=0) (rs:=l) (ys:=[n]) (t:=t) rfl (zero_le _) rfl rfl (by simp;omega);have a3:=fun(t:Bool)=>Gq (H:=[MB.row 1 ((l++[n]).map I) 0]) (i:=0) (n:=l.length+1) (rs:=l++[n]) (ys:=[]) (t:=t) rfl (zero_le _) (by simp) rfl (by simp;omega);have hdr:List.drop l.length (l.map I)=[]:=List.drop_eq_nil_of_le (by simp);simp only[List.length_nil,zero_add,nil_append,map_take,List.map_drop,map_nil,map_cons,map_append,List.set_cons_zero,append_nil,Nat.add_zero]at a1 a2 a3;simp +contextual (disch:=omega) only[Tryz.f174,G6,go_sem,simprocAttr,Gz,a1,a2,a3,hal,htk,hdr,hci];exact MO (z:=0) (els:=l.map I++[I n]) (l:=l.take l.length++[n]++l.drop l.length) rfl (by simp) (by simp) (by simp)
theorem QP (t:Bool) (l:List Int) (n top:Int) (hs:l.Pairwise (·< ·)) (hl:l.length<=1000000000) (H:List MB):call Pg pol1 174 [.sl t (l.map I),I n,I top] H=some (.sl false ((putL l n top).map I),H):=by
 have hpl:=AF l;rw[KT (l:=[.sl false (l.map I),I n,I top]) (H1:=H) rfl ?_ (by simp[AV.plainL,AV.plain,hpl])]
 ·exact QQ l n top hs hl H
 ·have h1:pol1.byref 174 0=false:=rfl;have h2:pol1.byref 174 (0+1)=false:=rfl;have h3:pol1.byref 174 (0+1+1)=false:=rfl;simp only[frzArgs,h1,h2,h3,Bool.false_eq_true,if_false,FX hpl,AY H (show AV.plain (I n)=true from rfl),AY H (show AV.plain (I top)=true from rfl)]
theorem Jp {top:Int}{l:List Int}{s:Spans}{k:Nat}{p:Int×Int} (h:s[k]?=some p):putS top l (s.take (k+1))=putL (putL (putS top l (s.take k)) p.1 top) (p.2+1) top:=by
 rw[take_add_one,h];simp[putS]
theorem Ig {top:Int}{L:List Spans}{i:Nat}{s:Spans} (h:L[i]?=some s):endsR (L.take (i+1)) top=putS top (endsR (L.take i) top) s:=by
 rw[take_add_one,h];simp[endsR]
theorem Gh {top:Int} (h0:0<=top):∀ {L:List Spans},(∀ s∈L,SetV s)->(∀ s∈L,s.length<=64)->(endsR L top).length<=1+128*L.length:=by
 intro L hs hl;have key:∀ i,i<=L.length->(endsR (L.take i) top).length<=1+128*i:=by
  intro i
  induction i with
  | zero=>intro _;simp[endsR]
  | succ i ih=>
    intro hi;obtain⟨s,hsi⟩:∃ s,L[i]?=some s:=⟨_,zga (by omega)⟩;have hm:=zgc hsi;rw[Ig hsi];have h1:=(C8 (s:=s) (C0 (L:=L.take i) h0 fun t ht=>hs t (List.mem_of_mem_take ht)) (fun p hp=>⟨((hs s hm).good p hp).1,((hs s hm).good p hp).2.1⟩)).2.1;have h2:=hl s hm;have h3:=ih (by omega);omega
 have:=key L.length (le_refl _);rw[take_length]at this;exact this
structure EK where
 i:Nat
 t:Bool
theorem sf72 (L:List Spans) (top:Int) (h0:0<=top) (htp:top<=1114111) (hs:∀ s∈L,SetV s) (hl:L.length<=1000000) (hsl:∀ s∈L,s.length<=64) (H:List MB):call Pg pol1 120 [.sl false (L.map setAV),I top] H=some (.sl false ((endsR L top).map I),H):=by
 have hpl:=Ak L;have fz1:∀(t:Bool) (l:List AV) H,AV.plainL l=true->fz (.sl t l) H=some (.sl false l,H):=fun t l H h=>FX h H;refine AQ Tryz.func120 rfl rfl rfl rfl rfl rfl (fun _=>rfl) (by simp[AV.plain,AV.plainL,hpl]) (by simp[AV.plain,AF]) ?_ H;simp +contextual (disch:=omega) only[Tryz.f120,FI,go_sem,simprocAttr,evAppend,AV.cells,FD];refine BR (σ:=EK) (M:=(Ms 120 3)) rfl (fun x=>(⟨48,[(6,I x.i),(5,.sl x.t ((endsR (L.take x.i) top).map I)),(1,I top),(0,.sl false (L.map setAV))],[]⟩:St)) (fun x=>x.i<=L.length) (fun x=>L.length-x.i) ⟨0,true⟩ ?_ (zero_le _) _ (by first|rfl|(refine AO rfl (by rfl) (by rfl) (by rfl) ?_ ?_<;>simp[AV.underL,AV.under,MB.under,AG,AJ,AF,AH,AK,AM,-map_take]));rintro⟨i,t⟩ hi;simp only at hi |-;have e0:=C0 (L:=L.take i) h0 fun s hm=>hs s (List.mem_of_mem_take hm);have l0:=Gh h0 (L:=L.take i) (fun s hm=>hs s (List.mem_of_mem_take hm)) (fun s hm=>hsl s (List.mem_of_mem_take hm));have l1:=List.length_take_le i L;by_cases hlt:i<L.length
 ·obtain⟨s,hsi⟩:∃ s,L[i]?=some s:=⟨_,zga hlt⟩;have hsi':(L.map setAV)[i]?=some (setAV s):=by simp[hsi]
  have hm:=zgc hsi;have hv:=hs s hm;have hsl1:=hsl s hm;have hst:=Ig (top:=top) hsi;generalize endsR (L.take i) top=l at *;simp +contextual (disch:=omega) only[Tryz.f120,FI,go_sem,simprocAttr,evAppend,AV.cells,FD,hsi'];refine BR (σ:=EK) (M:=(Ms 120 6)) rfl (fun x=>(⟨48,[(7,I x.i),(6,I i),(5,.sl x.t ((putS top l (s.take x.i)).map I)),(1,I top),(0,.sl false (L.map setAV))],[]⟩:St)) (fun x=>x.i<=s.length) (fun x=>s.length-x.i) ⟨0,t⟩ ?_ (zero_le _) _ (by first|rfl|(refine AO rfl (by rfl) (by rfl) (by rfl) ?_ ?_<;>simp[AV.underL,AV.under,MB.under,AG,AJ,AF,AH,AK,AM,-map_take]));rintro⟨k,t⟩ hk;simp only at hk |-;obtain⟨e1,l2,_⟩:=C8 (s:=s.take k) e0 (fun p hp=>⟨(hv.good p (List.mem_of_mem_take hp)).1,(hv.good p (List.mem_of_mem_take hp)).2.1⟩);have l3:=List.length_take_le k s;by_cases hkl:k<s.length
  ·obtain⟨p,hp⟩:∃ p,s[k]?=some p:=⟨_,zga hkl⟩;have hp':(s.map spanAV)[k]?=some (spanAV p):=by simp[hp]
   have hg:=hv.good p (zgc hp);have l4:=Fq (putS top l (s.take k)) p.1 top;have h1:=QP t (putS top l (s.take k)) p.1 top e1.sorted (by omega);have h2:=QQ (putL (putS top l (s.take k)) p.1 top) (p.2+1) top (e1.put hg.1).sorted (by omega);have hw:IntKind.i64.wrap (p.2+1)=p.2+1:=by rw[i64_in];omega
   have hst:=Jp (top:=top) (l:=l) hp;simp +contextual (disch:=omega) only[Tryz.f120,FI,go_sem,simprocAttr,evAppend,AV.cells,FD,hsi',hp',h1,h2,hw];exact⟨⟨k+1,false⟩,hkl,by show s.length-(k+1)<s.length-k;omega,by simp only[hst];exact(by first|rfl|(refine AO rfl (by rfl) (by rfl) (by rfl) ?_ ?_<;>simp[AV.underL,AV.under,MB.under,AG,AJ,AF,AH,AK,AM,-map_take]))⟩
  ·obtain rfl:k=s.length:=by omega
   rw[take_length];simp +contextual (disch:=omega) only[Tryz.f120,FI,go_sem,simprocAttr,evAppend,AV.cells,FD,hsi'];exact⟨⟨i+1,t⟩,hlt,by show L.length-(i+1)<L.length-i;omega,by simp only[hst];exact(by first|rfl|(refine AO rfl (by rfl) (by rfl) (by rfl) ?_ ?_<;>simp[AV.underL,AV.under,MB.under,AG,AJ,AF,AH,AK,AM,-map_take]))⟩
 ·obtain rfl:i=L.length:=by omega
  rw[take_length];simp +contextual (disch:=omega) only[Tryz.f120,FI,go_sem,simprocAttr,evAppend,AV.cells,FD];exact⟨_,FX (AF _) _⟩
theorem sf73 (L:List Spans) (a b:Int) (hl:L.length<=1000000) (hsl:∀ s∈L,s.length<=64) (H:List MB):call Pg pol1 121 [.sl false (L.map setAV),I a,I b] H=some (.bool (decide (colA L a=colA L b)),H):=by
 have hpl:=Ak L;refine AQ Tryz.func121 rfl rfl rfl rfl rfl rfl (fun _=>rfl) (by simp[AV.plain,AV.plainL,hpl]) (by simp[AV.plain,AF]) ?_ H;simp +contextual (disch:=omega) only[Tryz.f121,Oo,go_sem,simprocAttr,evAppend,AV.cells,OS];refine AS (M:=(Ms 121 2)) rfl L.length (fun i=>(⟨31,[(7,I i),(2,I b),(1,I a),(0,.sl false (L.map setAV))],[]⟩:St)) (fun i=>∀ k s,k<i->L[k]?=some s->hasSpan s a=hasSpan s b) ?_ ?_ (fun k p h=>by omega) _ (by first|rfl|(refine AO rfl (by rfl) (by rfl) (by rfl) ?_ ?_<;>simp[AV.underL,AV.under,MB.under,AG,AJ,AF,AH,AK,AM,-map_take]))
 ·intro i hi hg;obtain⟨s,hsi⟩:∃ s,L[i]?=some s:=⟨_,zga hi⟩;have hsi':(L.map setAV)[i]?=some (setAV s):=by simp[hsi]
  have hm:=zgc hsi;have ha:=OY s a (by have:=hsl s hm;omega);have hb:=OY s b (by have:=hsl s hm;omega);by_cases he:hasSpan s a=hasSpan s b
  ·rw[he]at ha;simp +contextual (disch:=omega) only[Tryz.f121,Oo,go_sem,simprocAttr,evAppend,AV.cells,OS,hsi',ha,hb];refine⟨fun _=>⟨fun k q hk hq=>?_,(by first|rfl|(refine AO rfl (by rfl) (by rfl) (by rfl) ?_ ?_<;>simp[AV.underL,AV.under,MB.under,AG,AJ,AF,AH,AK,AM,-map_take]))⟩,fun h=>absurd rfl h⟩;rcases Nat.lt_succ_iff_lt_or_eq.1 hk with h|rfl
   ·exact hg k q h hq
   ·rw[hsi]at hq;rw[<- Option.some.inj hq];exact he
  ·have hd:decide (colA L a=colA L b)=false:=decide_eq_false fun e=>he (by
    have:=congrArg (fun l:List Bool=>l[i]?) e
    simpa [colA,hsi] using this)
   rw[hd];simp +contextual (disch:=omega) only[Tryz.f121,Oo,go_sem,simprocAttr,evAppend,AV.cells,OS,hsi',ha,hb];exact⟨fun h=>absurd h he,fun _=>fzEq rfl rfl⟩
 ·intro hg;have hd:decide (colA L a=colA L b)=true:=decide_eq_true (by
   unfold colA;refine List.map_congr_left fun s hs=>?_;obtain⟨k,hk⟩:=List.getElem?_of_mem hs;exact hg k s (zgb.1 hk).1 hk)
  rw[hd];simp +contextual (disch:=omega) only[Tryz.f121,Oo,go_sem,simprocAttr,evAppend,AV.cells,OS];exact fzEq rfl rfl
def ofL (pc:Nat->Int×Int) (b:Nat->Bool):Nat->Spans
 | 0=>[]
 | n+1=>if b n then addI (ofL pc b n) (pc n) else ofL pc b n
theorem Kg (pc:Nat->Int×Int) (b:Nat->Bool):∀ n,(ofL pc b n).length<=n
 | 0=>by simp[ofL]
 | n+1=>by
   have ih:=Kg pc b n;simp only[ofL];split
   ·have:=(GG (ofL pc b n) (pc n)).2.1;omega
   ·omega
theorem Kh (pc:Nat->Int×Int) (col:Nat->List Bool) (c:List Bool):∀ n,ofL pc (fun k=>decide (col k=c)) n=clsOf col pc c n
 | 0=>rfl
 | n+1=>by
   simp only[ofL,clsOf,decide_eq_true_eq];rw[Kh]
theorem H6 {E:List Int}{top:Int} (he:EndsOk top E) (b:Nat->Bool):∀ {n:Nat},n<=E.length->(ofL (pieceA E top) b n=[]/\∀ k,k<n->b k=false)∨∃ O q k,ofL (pieceA E top) b n=O++[q]/\k<n/\b k=true/\q.2=lastP E top (k+1)-1/\(∀ j,k<j->j<n->b j=false)/\q.1<=q.2
 | 0,_=>.inl ⟨rfl,fun k h=>by omega⟩
 | n+1,hn=>by
   have st:=he.step (k:=n) (by omega);simp only[ofL];cases hb:b n with
   | false=>
     simp only[Bool.false_eq_true,if_false];rcases H6 he b (n:=n) (by omega) with ⟨h1,h2⟩|⟨O,q,k,h1,h2,h3,h4,h5,h6⟩
     ·exact .inl ⟨h1,fun k hk=>by
       rcases Nat.lt_succ_iff_lt_or_eq.1 hk with h|rfl
       ·exact h2 k h
       ·exact hb⟩
     ·exact .inr ⟨O,q,k,h1,by omega,h3,h4,fun j h7 h8=>by
       rcases Nat.lt_succ_iff_lt_or_eq.1 h8 with h|rfl
       ·exact h5 j h7 h
       ·exact hb,h6⟩
   | true=>
     simp only[if_true];right;rcases H6 he b (n:=n) (by omega) with ⟨h1,h2⟩|⟨O,q,k,h1,h2,h3,h4,h5,h6⟩
     ·rw[h1,Do];exact⟨[],pieceA E top n,n,rfl,by omega,hb,rfl,fun j h7 h8=>by omega,by simp only[pieceA];omega⟩
     ·rw[h1,CP];have stk:=he.step (k:=k) (by omega);split
      ·rename_i hle;refine⟨O,_,n,rfl,by omega,hb,?_,fun j h7 h8=>by omega,?_⟩
       ·simp only[pieceA]at hle |-;have:lastP E top (k+1)<=lastP E top n:=by
         rcases Nat.lt_or_eq_of_le (show k+1<=n by omega) with h9|h9
         ·exact Int.le_of_lt (he.mono h9 (by omega))
         ·rw[h9];exact Int.le_refl _
        omega
       ·simp only;omega
      ·exact⟨O++[q],_,n,rfl,by omega,hb,rfl,fun j h7 h8=>by omega,by simp only[pieceA];omega⟩
theorem Qg {O:Spans}{q:Int×Int}{O':Spans} (h:O' = O++[q]):(O'.map spanAV)[O'.length-1]?=some (spanAV q)/\O'.length=O.length+1:=by
 subst h;simp
theorem N9 {H:List MB}{i n z:Nat}{rs:Spans}{p:Int×Int}{t:Bool} (hi:getRow H i=some (2,rs.map spanAV,z)) (hz:z<=n) (hn:rs.length=n) (hr:n+1<=4000000000) :
  evAppend Pg H 23 23 (.ms i 2 n 0 n) (.sl t [.agg [I p.1,I p.2]])=some (.ms i 2 (n+1) 0 (n+1),H.set i (.row 2 ((rs++[p]).map spanAV) z)):=by
 have hs:srcElems Pg H 33 (.sl t [.agg [I p.1,I p.2]])=some [.agg [I p.1,I p.2]]:=rfl;rw[Ag (e:=33) (by kernel_rfl) (by kernel_rfl) (k:=2) (by kernel_rfl) (by_:=16) (by kernel_rfl) (ze:=.agg [I 0,I 0]) (by kernel_rfl) rfl (by omega) hs (by simp[AV.cells,AV.ok]) hi (by rw[length_map];exact hn) hz (AW (by simp;omega) (by omega))];rw[map_append];rfl
theorem TO {H:List MB}{i n z:Nat}{rs:List Spans}{p:Spans}{t:Bool} (hi:getRow H i=some (1,rs.map setAV,z)) (hz:z<=n) (hn:rs.length=n) (hr:n+1<=4000000000) :
  evAppend Pg H 38 38 (.ms i 1 n 0 n) (.sl t [.sl false (p.map spanAV)])=some (.ms i 1 (n+1) 0 (n+1),H.set i (.row 1 ((rs++[p]).map setAV) z)):=by
 have hs:srcElems Pg H 23 (.sl t [.sl false (p.map spanAV)])=some [.sl false (p.map spanAV)]:=rfl;rw[Ag (e:=23) (by kernel_rfl) (by kernel_rfl) (k:=1) (by kernel_rfl) (by_:=24) (by kernel_rfl) (ze:=.sl true []) (by kernel_rfl) rfl (by omega) hs (by simp[AV.cells,AV.ok]) hi (by rw[length_map];exact hn) hz (AW (by simp;omega) (by omega))];rw[map_append];rfl
theorem sf74 {E:List Int}{top:Int} (he:EndsOk top E) (htp:top<=1114111) (bs:List Bool) (hb:bs.length=E.length) (hl:E.length<=1000000) (H:List MB) :
  call Pg pol1 122 [.sl false (E.map I),.sl false (bs.map AV.bool),I top] H =
   some (if 64<(ofL (pieceA E top) (fun k=>bs.getD k false) E.length).length then .tup [.sl false [],I 4] else .tup [.sl false ((ofL (pieceA E top) (fun k=>bs.getD k false) E.length).map spanAV),I 0],H):=by
 have hpe:=AF E;have hpb:=BF bs;refine AQ Tryz.func122 rfl rfl rfl rfl rfl rfl (fun _=>rfl) (by simp[AV.plain,AV.plainL,hpe,hpb]) (by split<;>simp[AV.plain,AV.plainL,AH]) ?_ H;simp +contextual (disch:=omega) only[Tryz.f122,FH,go_sem,simprocAttr,evAppend,AV.cells,FC];refine AS (M:=(Ms 122 3)) rfl E.length (fun i=>(⟨63,[(9,I i),(8,.ms 0 2 (ofL (pieceA E top) (fun k=>bs.getD k false) i).length 0 (ofL (pieceA E top) (fun k=>bs.getD k false) i).length),(2,I top),(1,.sl false (bs.map AV.bool)),(0,.sl false (E.map I))],[.row 2 ((ofL (pieceA E top) (fun k=>bs.getD k false) i).map spanAV) 0]⟩:St)) (fun i=>True) ?_ ?_ trivial _ (by first|rfl|(refine AO rfl (by rfl) (by rfl) (by rfl) ?_ ?_<;>simp[AV.underL,AV.under,MB.under,AG,AJ,AF,AH,AK,AM,-map_take,BF]))
 ·intro i hi _;obtain⟨x,hx⟩:∃ x,E[i]?=some x:=⟨_,zga hi⟩;have hx':(E.map I)[i]?=some (I x):=by simp[hx]
  obtain⟨b,hbi⟩:∃ b,bs[i]?=some b:=⟨_,zga (by omega)⟩;have hbi':(bs.map AV.bool)[i]?=some (.bool b):=by simp[hbi]
  have hbd:bs.getD i false=b:=by simp[List.getD_eq_getElem?_getD,hbi]
  have hx2:=he.le x (zgc hx);have hlo:=Kg (pieceA E top) (fun k=>bs.getD k false) i;have hst:ofL (pieceA E top) (fun k=>bs.getD k false) (i+1)=if b then addI (ofL (pieceA E top) (fun k=>bs.getD k false) i) (pieceA E top i) else ofL (pieceA E top) (fun k=>bs.getD k false) i:=by simp only[ofL,hbd]
  have hla:=H6 he (fun k=>bs.getD k false) (n:=i) (by omega);have hpc:(pieceA E top i).1=x:=BD hx;have hstep:=he.step hi;cases b with
  | false=>
    rw[if_neg (by simp)]at hst;simp +contextual (disch:=omega) only[Tryz.f122,FH,go_sem,simprocAttr,evAppend,AV.cells,FC,hx',hbi'];simp only[hst];exact(by first|rfl|(refine AO rfl (by rfl) (by rfl) (by rfl) ?_ ?_<;>simp[AV.underL,AV.under,MB.under,AG,AJ,AF,AH,AK,AM,-map_take,BF]))
  | true=>
    rw[if_pos rfl]at hst;generalize hO:ofL (pieceA E top) (fun k=>bs.getD k false) i=O at *;generalize hO2:ofL (pieceA E top) (fun k=>bs.getD k false) (i+1)=O2 at *;have hp:pieceA E top i=(x,lastP E top (i+1)-1):=by rw[<- hpc];rfl
    rw[hp]at hst;have hhi:lastP E top i=x:=hpc;have a1:=fun(t:Bool)=>N9 (H:=[MB.row 2 (O.map spanAV) 0]) (i:=0) (p:=(x,lastP E top (i+1)-1)) (t:=t) rfl (zero_le _) rfl (by omega);by_cases hprev:0<i/\bs.getD (i-1) false=true
    ·obtain⟨h0,hpv⟩:=hprev;have hbp:(bs.map AV.bool)[i-1]?=some (.bool true):=by
      obtain⟨b,hb1⟩:∃ b,bs[i-1]?=some b:=⟨_,zga (by omega)⟩;have:b=true:=by simpa [List.getD_eq_getElem?_getD,hb1] using hpv
      simp[hb1,this]
     obtain⟨O',q,k,h1,h2,h3,h4,h5,h6⟩:∃ O' q k,O=O'++[q]/\k<i/\bs.getD k false=true/\q.2=lastP E top (k+1)-1/\(∀ j,k<j->j<i->bs.getD j false=false)/\q.1<=q.2:=by
      rcases hla with ⟨_,h⟩|h
      ·rw[h (i-1) (by omega)]at hpv;cases hpv
      ·exact h
     have hk:k=i-1:=by
      rcases lt_or_ge k (i-1) with h7|h7
      ·rw[h5 (i-1) h7 (by omega)]at hpv;cases hpv
      ·omega
     rw[hk,show i-1+1=i by omega,hhi]at h4;rw[h1,CP,if_pos (by simp only;omega),Int.max_eq_right (by simp only;omega)]at hst;obtain⟨h8,h9⟩:=Qg h1;have h10:(O.map spanAV).set (O.length-1) (.agg [I q.1,I (lastP E top (i+1)-1)])=O2.map spanAV:=by
      rw[h1,hst];simp
     have h11:O2.length=O.length:=by rw[h1,hst];simp
     rw[h11];rcases lt_or_ge (i+1) E.length with h12|h12
     ·obtain⟨y,hy⟩:∃ y,E[i+1]?=some y:=⟨_,zga h12⟩;have hy':(E.map I)[i+1]?=some (I y):=by simp[hy]
      have hly:lastP E top (i+1)=y:=BD hy;rw[hly]at h10 hstep;have hw:IntKind.i64.wrap (y-1)=y-1:=by rw[i64_in];omega
      simp +contextual (disch:=omega) only[Tryz.f122,FH,go_sem,simprocAttr,evAppend,AV.cells,FC,hx',hbi',hbp,hy',hw,h8,h10];exact(by first|rfl|(refine AO rfl (by rfl) (by rfl) (by rfl) ?_ ?_<;>simp[AV.underL,AV.under,MB.under,AG,AJ,AF,AH,AK,AM,-map_take,BF]))
     ·have hly:lastP E top (i+1)=top+1:=By h12;rw[hly,show top+1-1=top by omega]at h10;simp +contextual (disch:=omega) only[Tryz.f122,FH,go_sem,simprocAttr,evAppend,AV.cells,FC,hx',hbi',hbp,h8,h10];exact(by first|rfl|(refine AO rfl (by rfl) (by rfl) (by rfl) ?_ ?_<;>simp[AV.underL,AV.under,MB.under,AG,AJ,AF,AH,AK,AM,-map_take,BF]))
    ·have hO3:O2=O++[(x,lastP E top (i+1)-1)]:=by
      rw[hst];rcases hla with ⟨h,_⟩|⟨O',q,k,h1,h2,h3,h4,h5,h6⟩
      ·rw[h];rfl
      ·rw[h1,CP,if_neg];have hk:k+1<i:=by
        rcases Nat.lt_or_eq_of_le (show k+1<=i by omega) with h7|h7
        ·exact h7
        ·exact absurd ⟨by omega,by rw[show i-1=k by omega];exact h3⟩ hprev
       have:=he.mono hk (by omega);simp only;omega
     have h11:O2.length=O.length+1:=by rw[hO3];simp
     rw[h11];simp only[List.set_cons_zero]at a1;rw[<- hO3]at a1;have hbp:i=0∨(0<i/\(bs.map AV.bool)[i-1]?=some (.bool false)):=by
      rcases Nat.eq_zero_or_pos i with h0|h0
      ·exact .inl h0
      ·obtain⟨b,hb1⟩:∃ b,bs[i-1]?=some b:=⟨_,zga (by omega)⟩;have:b=false:=by
        cases b with
        | false=>rfl
        | true=>exact absurd ⟨h0,by simp[List.getD_eq_getElem?_getD,hb1]⟩ hprev
       exact .inr ⟨h0,by simp[hb1,this]⟩
     rcases lt_or_ge (i+1) E.length with h12|h12
     ·obtain⟨y,hy⟩:∃ y,E[i+1]?=some y:=⟨_,zga h12⟩;have hy':(E.map I)[i+1]?=some (I y):=by simp[hy]
      have hly:lastP E top (i+1)=y:=BD hy;rw[hly]at a1 hstep;have hw:IntKind.i64.wrap (y-1)=y-1:=by rw[i64_in];omega
      rcases hbp with rfl|⟨h0,hbp⟩
      ·simp +contextual (disch:=omega) only[Tryz.f122,FH,go_sem,simprocAttr,AV.cells,FC,hx',hbi',hy',hw,a1];exact(by first|rfl|(refine AO rfl (by rfl) (by rfl) (by rfl) ?_ ?_<;>simp[AV.underL,AV.under,MB.under,AG,AJ,AF,AH,AK,AM,-map_take,BF]))
      ·simp +contextual (disch:=omega) only[Tryz.f122,FH,go_sem,simprocAttr,AV.cells,FC,hx',hbi',hbp,hy',hw,a1];exact(by first|rfl|(refine AO rfl (by rfl) (by rfl) (by rfl) ?_ ?_<;>simp[AV.underL,AV.under,MB.under,AG,AJ,AF,AH,AK,AM,-map_take,BF]))
     ·have hly:lastP E top (i+1)=top+1:=By h12;rw[hly,show top+1-1=top by omega]at a1;rcases hbp with rfl|⟨h0,hbp⟩
      ·simp +contextual (disch:=omega) only[Tryz.f122,FH,go_sem,simprocAttr,AV.cells,FC,hx',hbi',a1];exact(by first|rfl|(refine AO rfl (by rfl) (by rfl) (by rfl) ?_ ?_<;>simp[AV.underL,AV.under,MB.under,AG,AJ,AF,AH,AK,AM,-map_take,BF]))
      ·simp +contextual (disch:=omega) only[Tryz.f122,FH,go_sem,simprocAttr,AV.cells,FC,hx',hbi',hbp,a1];exact(by first|rfl|(refine AO rfl (by rfl) (by rfl) (by rfl) ?_ ?_<;>simp[AV.underL,AV.under,MB.under,AG,AJ,AF,AH,AK,AM,-map_take,BF]))
 ·intro _;have hlo:=Kg (pieceA E top) (fun k=>bs.getD k false) E.length;generalize ofL (pieceA E top) (fun k=>bs.getD k false) E.length=O at *;by_cases h64:64<O.length
  ·rw[if_pos h64];simp +contextual (disch:=omega) only[Tryz.f122,FH,go_sem,simprocAttr,evAppend,AV.cells,FC];exact⟨_,rfl⟩
  ·rw[if_neg h64];simp +contextual (disch:=omega) only[Tryz.f122,FH,go_sem,simprocAttr,evAppend,AV.cells,FC];exact IS (k:=2) (z:=0) (els:=O.map spanAV) rfl (by simp) (AH _)
def splitR:Option (List Spans)->AV
 | none=>.tup [.sl false [],I 4]
 | some cls=>.tup [.sl false (cls.map setAV),I 0]
theorem PO {α:Type}{m k:Nat} (f:Nat->α) (v:α):((List.range m).map f).set k v=(List.range m).map fun j=>if j=k then v else f j:=by
 refine List.ext_getElem? fun i=>?_;rw[List.getElem?_set,getElem?_map,getElem?_map,length_map,List.length_range];rcases lt_or_ge i m with h|h
 ·rw[List.getElem?_range h];by_cases e:k=i
  ·subst e;simp[h]
  ·simp[e,Ne.symm e]
 ·rw[List.getElem?_eq_none (by simpa using h)];simp;omega
theorem Js {pc:Nat->Int×Int}{b b':Nat->Bool}:∀ {n:Nat},(∀ j,j<n->b j=b' j)->ofL pc b n=ofL pc b' n
 | 0,_=>rfl
 | n+1,h=>by
   simp only[ofL,h n (by omega),Js (n:=n) fun j hj=>h j (by omega)]
def bR (m:Nat) (f:Nat->Bool):List AV:=((List.range m).map f).map AV.bool
theorem JA (m:Nat) (f:Nat->Bool):(bR m f).length=m:=by simp[bR]
theorem Mz {m k:Nat} (f:Nat->Bool) (h:k<m):(bR m f)[k]?=some (.bool (f k)):=by simp[bR,h]
theorem RR {m k:Nat}{f g:Nat->Bool} (h:∀ j,j<m->g j=if j=k then g k else f j):(bR m f).set k (.bool (g k))=bR m g:=by
 unfold bR;rw[<- List.map_set,PO];congr 1;refine List.map_congr_left fun j hj=>?_;rw[h j (List.mem_range.1 hj)]
theorem RT (m:Nat):List.replicate m (AV.bool false)=bR m fun _=>false:=by simp[bR,List.map_const']
theorem GF {m:Nat}{f g:Nat->Bool} (h:∀ j,j<m->f j=g j):bR m f=bR m g:=by
 unfold bR;congr 1;exact List.map_congr_left fun j hj=>h j (List.mem_range.1 hj)
theorem B1 (m:Nat) (f:Nat->Bool):AV.plainL (bR m f)=true:=BF _
def outA (col:Nat->List Bool) (pc:Nat->Int×Int) (m i:Nat):List Spans:=(firsts col i).map fun c=>clsOf col pc c m
theorem Ls (col:Nat->List Bool) (pc:Nat->Int×Int) (m i:Nat):(outA col pc m i).length=(firsts col i).length:=by simp[outA]
theorem sf39 (L:List Spans) (top:Int) (h0:0<=top) (htp:top<=1114111) (hs:∀ s∈L,SetV s) (hv:∀ s∈L,refSpans s=0) (hl:L.length<=8192) (hsl:∀ s∈L,s.length<=64) (H:List MB) :
  call Pg pol1 62 [.sl false (L.map setAV),I top] H=some (if 1024<L.length then splitR none else splitR (splitA L (endsR L top) top),H):=by
 have hpl:=Ak L;have h72:=sf72 L top h0 htp hs (by omega) hsl;have hEn:=Gh h0 hs hsl;have hE:=C0 h0 hs;have h71:∀ s∈L,∀ H,call Pg pol1 119 [setAV s] H=some (I 0,H):=fun s hm H=>by
  rw[f119 s (by have:=hsl s hm;omega) H,hv s hm]
 refine AQ Tryz.func62 rfl rfl rfl rfl rfl rfl (fun _=>rfl) (by simp[AV.plain,AV.plainL,hpl]) (by
  split
  ·rfl
  ·cases splitA L (endsR L top) top with
   | none=>rfl
   | some c=>simp[splitR,AV.plain,AV.plainL,Ak]) ?_ H
 simp +contextual (disch:=omega) only[Tryz.f62,dd62,go_sem,simprocAttr,evAppend,AV.cells,mu62];refine AS (M:=(Ms 62 2)) rfl L.length (fun i=>(⟨109,[(6,I i),(1,I top),(0,.sl false (L.map setAV))],[]⟩:St)) (fun i=>True) ?_ ?_ trivial _ (by first|rfl|(refine AO rfl (by rfl) (by rfl) (by rfl) ?_ ?_<;>simp[AV.underL,AV.under,MB.under,AG,AJ,AF,AH,AK,AM,-map_take]))
 ·intro i hi _;obtain⟨s,hsi⟩:∃ s,L[i]?=some s:=⟨_,zga hi⟩;have hsi':(L.map setAV)[i]?=some (setAV s):=by simp[hsi]
  have h:=h71 s (zgc hsi);simp +contextual (disch:=omega) only[Tryz.f62,dd62,go_sem,simprocAttr,evAppend,AV.cells,mu62,hsi',h];exact(by first|rfl|(refine AO rfl (by rfl) (by rfl) (by rfl) ?_ ?_<;>simp[AV.underL,AV.under,MB.under,AG,AJ,AF,AH,AK,AM,-map_take]))
 ·intro _;by_cases hbig:1024<L.length
  ·rw[if_pos hbig];simp +contextual (disch:=omega) only[Tryz.f62,dd62,go_sem,simprocAttr,evAppend,AV.cells,mu62];exact⟨_,rfl⟩
  ·rw[if_neg hbig];generalize endsR L top=E at *;have hpe:=AF E;simp +contextual (disch:=omega) only[Tryz.f62,dd62,go_sem,simprocAttr,evAppend,AV.cells,mu62,h72]
   refine BR (σ:=Nat) (M:=(Ms 62 15)) rfl (fun i=>(⟨109,[(11,I i),(10,.ms 1 1 (firsts (colK L E top) i).length 0 (firsts (colK L E top) i).length),(9,.ms 0 1 E.length 0 E.length),(8,.sl false (E.map I)),(1,I top),(0,.sl false (L.map setAV))],[.row 1 (bR E.length fun j=>decide (colK L E top j∈firsts (colK L E top) i)) 0,.row 1 ((outA (colK L E top) (pieceA E top) E.length i).map setAV) 0]⟩:St))
    (fun i=>i<=E.length/\∀ c∈firsts (colK L E top) i,¬ 64<(clsOf (colK L E top) (pieceA E top) c E.length).length) (fun i=>E.length-i) 0 ?_ ⟨zero_le _,fun c h=>by simp[firsts]at h⟩ _ ?_
   ·intro i ⟨hi,hcl⟩;generalize hcol:colK L E top=col at *;generalize hpc:pieceA E top=pc at *;have hfl:=IY (col:=col) i;have hbl:=JA E.length fun j=>decide (col j∈firsts col i);by_cases hlt:i<E.length
    ·by_cases hdn:col i∈firsts col i
     ·have hdi:(bR E.length fun j=>decide (col j∈firsts col i))[i]?=some (.bool true):=by rw[Mz _ hlt];simp[hdn]
      have hf:firsts col (i+1)=firsts col i:=by simp only[firsts,if_pos hdn]
      simp +contextual (disch:=omega) only[Tryz.f62,dd62,go_sem,simprocAttr,evAppend,AV.cells,mu62,hdi,hbl];refine⟨i+1,⟨hlt,by rw[hf];exact hcl⟩,by omega,?_⟩;have ho:outA col pc E.length (i+1)=outA col pc E.length i:=by simp only[outA,hf]
      rw[ho];simp only[hf];exact(by first|rfl|(refine AO rfl (by rfl) (by rfl) (by rfl) ?_ ?_<;>simp[AV.underL,AV.under,MB.under,AG,AJ,AF,AH,AK,AM,-map_take,B1,Ak]))
     ·have hdi:(bR E.length fun j=>decide (col j∈firsts col i))[i]?=some (.bool false):=by rw[Mz _ hlt];simp[hdn]
      have hf:firsts col (i+1)=firsts col i++[col i]:=by simp only[firsts,if_neg hdn]
      obtain⟨e,he⟩:∃ e,E[i]?=some e:=⟨_,zga hlt⟩;have he':(E.map I)[i]?=some (I e):=by simp[he]
      have hce:col i=colA L e:=by rw[<- hcol];unfold colK;rw[BD he]
      have hpb:=B1;simp +contextual (disch:=omega) only[Tryz.f62,dd62,go_sem,simprocAttr,evAppend,AV.cells,mu62,hdi,hbl]
      refine BR (σ:=Nat) (M:=(Ms 62 20)) rfl (fun k=>(⟨109,[(13,I k),(12,.ms 2 1 E.length 0 E.length),(11,I i),(10,.ms 1 1 (firsts col i).length 0 (firsts col i).length),(9,.ms 0 1 E.length 0 E.length),(8,.sl false (E.map I)),(1,I top),(0,.sl false (L.map setAV))],[.row 1 (bR E.length fun j=>decide (col j∈firsts col i)||(decide (i<=j/\j<k)&&decide (col j=col i))) 0,.row 1 ((outA col pc E.length i).map setAV) 0,.row 1 (bR E.length fun j=>decide (i<=j/\j<k)&&decide (col j=col i)) 0]⟩:St))
       (fun k=>i<=k/\k<=E.length) (fun k=>E.length-k) i ?_ ⟨le_refl _,hi⟩ _ ?_
      ·intro k ⟨hk1,hk2⟩;by_cases hkl:k<E.length
       ·obtain⟨x,hx⟩:∃ x,E[k]?=some x:=⟨_,zga hkl⟩;have hx':(E.map I)[k]?=some (I x):=by simp[hx]
        have hcx:col k=colA L x:=by rw[<- hcol];unfold colK;rw[BD hx]
        have h73:=sf73 L e x (by omega) hsl;rw[<- hce,<- hcx]at h73;have b1:=JA E.length fun j=>decide (col j∈firsts col i)||(decide (i<=j/\j<k)&&decide (col j=col i));have b2:=JA E.length fun j=>decide (i<=j/\j<k)&&decide (col j=col i);have b3:=Mz (k:=k) (fun j=>decide (col j∈firsts col i)||(decide (i<=j/\j<k)&&decide (col j=col i))) hkl;have b4:=Mz (k:=k) (fun j=>decide (i<=j/\j<k)&&decide (col j=col i)) hkl;have b5:=RR (m:=E.length) (k:=k) (f:=fun j=>decide (i<=j/\j<k)&&decide (col j=col i)) (g:=fun j=>decide (i<=j/\j<k+1)&&decide (col j=col i)) (fun j hj=>by
         by_cases e:j=k
         ·subst e;simp
         ·rw[if_neg e];have:(i<=j/\j<k+1)↔(i<=j/\j<k):=by omega
          simp[this])
        have b6:=RR (m:=E.length) (k:=k) (f:=fun j=>decide (col j∈firsts col i)||(decide (i<=j/\j<k)&&decide (col j=col i))) (g:=fun j=>decide (col j∈firsts col i)||(decide (i<=j/\j<k+1)&&decide (col j=col i))) (fun j hj=>by
         by_cases e:j=k
         ·subst e;simp
         ·rw[if_neg e];have:(i<=j/\j<k+1)↔(i<=j/\j<k):=by omega
          simp[this])
        have hkk:decide (i<=k/\k<k)=false:=decide_eq_false (by omega);have hkk1:decide (i<=k/\k<k+1)=true:=decide_eq_true (by omega);simp only[hkk,hkk1,Bool.false_and,Bool.true_and,Bool.or_false]at b3 b4 b5 b6;have hsym:decide (col i=col k)=decide (col k=col i):=decide_eq_decide.2 eq_comm;rw[hsym]at h73;cases hq:decide (col k∈firsts col i) with
        | true=>
          rw[hq]at b3 b6;rw[Bool.true_or]at b6;simp +contextual (disch:=omega) only[Tryz.f62,dd62,go_sem,simprocAttr,evAppend,AV.cells,mu62,he',hx',h73,b1,b2,b3,b4,b5,b6];repeat' (first|intro _|apply And.intro|(unfold dOk;kernel_rfl)|exact St.beq_refl _|exact Ah|(show altO _ _ _ _=true;kernel_rfl)|(show (_||_)=true;kernel_rfl)|(show (_&&_)=true;kernel_rfl))
          exact⟨k+1,⟨by omega,hkl⟩,by omega,(by first|rfl|(refine AO rfl (by rfl) (by rfl) (by rfl) ?_ ?_<;>simp[AV.underL,AV.under,MB.under,AG,AJ,AF,AH,AK,AM,-map_take,B1,Ak]))⟩
        | false=>
          rw[hq]at b3 b6;rw[Bool.false_or]at b6;have b7:(bR E.length fun j=>decide (i<=j/\j<k+1)&&decide (col j=col i))[k]?=some (.bool (decide (col k=col i))):=by
           rw[Mz _ hkl,hkk1,Bool.true_and]
          have b8:=JA E.length fun j=>decide (i<=j/\j<k+1)&&decide (col j=col i);simp +contextual (disch:=omega) only[Tryz.f62,dd62,go_sem,simprocAttr,evAppend,AV.cells,mu62,he',hx',h73,b1,b2,b3,b4,b5,b6,b7,b8];repeat' (first|intro _|apply And.intro|(unfold dOk;kernel_rfl)|exact St.beq_refl _|exact Ah|(show altO _ _ _ _=true;kernel_rfl)|(show (_||_)=true;kernel_rfl)|(show (_&&_)=true;kernel_rfl))
          exact⟨k+1,⟨by omega,hkl⟩,by omega,(by first|rfl|(refine AO rfl (by rfl) (by rfl) (by rfl) ?_ ?_<;>simp[AV.underL,AV.under,MB.under,AG,AJ,AF,AH,AK,AM,-map_take,B1,Ak]))⟩
       ·obtain rfl:k=E.length:=by omega
        have h74:=sf74 hE htp ((List.range E.length).map fun j=>decide (i<=j/\j<E.length)&&decide (col j=col i)) (by simp) (by omega);have ho:ofL (pieceA E top) (fun j=>((List.range E.length).map fun j=>decide (i<=j/\j<E.length)&&decide (col j=col i)).getD j false) E.length=clsOf col pc (col i) E.length:=by
         rw[<- Kh,hpc];refine Js fun j hj=>?_;rw[List.getD_eq_getElem?_getD,getElem?_map,List.getElem?_range hj];simp only[Option.map_some,Option.getD_some];rcases lt_or_ge j i with h|h
         ·have hne:col j≠col i:=fun e2=>hdn (BB.2 ⟨j,h,e2⟩);simp[hne]
         ·simp[h,hj]
        rw[ho]at h74;have b2:=JA E.length fun j=>decide (i<=j/\j<E.length)&&decide (col j=col i);have bfz:∀(x y:MB),fz (.ms 2 1 E.length 0 E.length) [x,y,.row 1 (bR E.length fun j=>decide (i<=j/\j<E.length)&&decide (col j=col i)) 0]=some (.sl false (bR E.length fun j=>decide (i<=j/\j<E.length)&&decide (col j=col i)),[x,y,.row 1 (bR E.length fun j=>decide (i<=j/\j<E.length)&&decide (col j=col i)) E.length]):=fun x y=>by
         rw[Av (k:=1) (z:=0) (els:=bR E.length fun j=>decide (i<=j/\j<E.length)&&decide (col j=col i)) rfl b2 (B1 _ _)];rfl
        have h74':∀(x y:MB),call Pg pol1 122 [.sl false (E.map I),.ms 2 1 E.length 0 E.length,I top] [x,y,.row 1 (bR E.length fun j=>decide (i<=j/\j<E.length)&&decide (col j=col i)) 0] =
          some (if 64<(clsOf col pc (col i) E.length).length then .tup [.sl false [],I 4] else .tup [.sl false ((clsOf col pc (col i) E.length).map spanAV),I 0],[x,y,.row 1 (bR E.length fun j=>decide (i<=j/\j<E.length)&&decide (col j=col i)) E.length]):=fun x y=>by
         rw[KT (l:=[.sl false (E.map I),.sl false (bR E.length fun j=>decide (i<=j/\j<E.length)&&decide (col j=col i)),I top]) (H1:=[x,y,.row 1 (bR E.length fun j=>decide (i<=j/\j<E.length)&&decide (col j=col i)) E.length]) rfl ?_ (by simp[AV.plainL,AV.plain,hpe,B1])]
         ·exact h74 _
         ·have h1:pol1.byref 122 0=false:=rfl;have h2:pol1.byref 122 (0+1)=false:=rfl;have h3:pol1.byref 122 (0+1+1)=false:=rfl;simp only[frzArgs,h1,h2,h3,Bool.false_eq_true,if_false,FX hpe,bfz,AY _ (show AV.plain (I top)=true from rfl)]
        by_cases h64:64<(clsOf col pc (col i) E.length).length
        ·have hbad:splitA L E top=none:=B8 (n:=E.length) (le_refl _) (.inr ⟨col i,BB.2 ⟨i,hlt,by rw[hcol]⟩,by rw[hcol,hpc];exact h64⟩);rw[hbad];simp only[if_pos h64]at h74';simp +contextual (disch:=omega) only[Tryz.f62,dd62,go_sem,simprocAttr,evAppend,AV.cells,mu62,h74',b2];exact⟨_,rfl⟩
        ·simp only[if_neg h64]at h74';have ho2:outA col pc E.length (i+1)=outA col pc E.length i++[clsOf col pc (col i) E.length]:=by simp[outA,hf]
         have hd2:(bR E.length fun j=>decide (col j∈firsts col i)||(decide (i<=j/\j<E.length)&&decide (col j=col i)))=bR E.length fun j=>decide (col j∈firsts col (i+1)):=GF fun j hj=>by
          rw[hf];by_cases e1:col j=col i
          ·rcases lt_or_ge j i with h|h
           ·exact absurd (BB.2 ⟨j,h,e1⟩) hdn
           ·simp[e1,h,hj]
          ·simp[e1]
         have a1:=fun(x y:MB) (t:Bool)=>TO (H:=[x,MB.row 1 ((outA col pc E.length i).map setAV) 0,y]) (i:=1) (p:=clsOf col pc (col i) E.length) (t:=t) rfl (zero_le _) (Ls col pc E.length i) (by omega);have hfl2:(firsts col (i+1)).length=(firsts col i).length+1:=by rw[hf];simp
         simp +contextual (disch:=omega) only[Tryz.f62,dd62,go_sem,simprocAttr,AV.cells,mu62,h74',b2,a1];refine⟨i+1,⟨hlt,fun c hc=>?_⟩,by omega,?_⟩
         ·rw[hf]at hc;rcases List.mem_append.1 hc with h|h
          ·exact hcl c h
          ·rw[List.mem_singleton.1 h];exact h64
         ·rw[hd2,ho2,map_append,hfl2];exact(by first|rfl|(refine AO rfl (by rfl) (by rfl) (by rfl) ?_ ?_<;>simp[AV.underL,AV.under,MB.under,AG,AJ,AF,AH,AK,AM,-map_take,B1,Ak,CQ]))
      ·have e1:(bR E.length fun j=>decide (col j∈firsts col i)||(decide (i<=j/\j<i)&&decide (col j=col i)))=bR E.length fun j=>decide (col j∈firsts col i):=GF fun j hj=>by
        have:decide (i<=j/\j<i)=false:=decide_eq_false (by omega);simp[this]
       have e2:(bR E.length fun j=>decide (i<=j/\j<i)&&decide (col j=col i))=bR E.length fun _=>false:=GF fun j hj=>by
        have:decide (i<=j/\j<i)=false:=decide_eq_false (by omega);simp[this]
       rw[RT,e1,e2];exact(by first|rfl|(refine AO rfl (by rfl) (by rfl) (by rfl) ?_ ?_<;>simp[AV.underL,AV.under,MB.under,AG,AJ,AF,AH,AK,AM,-map_take,B1,Ak]))
    ·obtain rfl:i=E.length:=by omega
     by_cases hmany:1024<(firsts col E.length).length
     ·have hbad:splitA L E top=none:=B8 (n:=E.length) (le_refl _) (.inl (by rw[hcol];exact hmany));rw[hbad];simp +contextual (disch:=omega) only[Tryz.f62,dd62,go_sem,simprocAttr,evAppend,AV.cells,mu62];exact⟨_,rfl⟩
     ·have hok:splitA L E top=some (outA col pc E.length E.length):=by
       rw[GM (by
        rw[hcol,hpc];rintro(h|⟨c,hc,h⟩)
        ·exact hmany h
        ·exact hcl c hc h),hcol,hpc]
       rfl
      rw[hok];have hol:=Ls col pc E.length E.length;simp +contextual (disch:=omega) only[Tryz.f62,dd62,go_sem,simprocAttr,evAppend,AV.cells,mu62];exact IS (k:=1) (z:=0) (els:=(outA col pc E.length E.length).map setAV) rfl (by rw[length_map];exact hol) (Ak _)
   ·rw[RT];have:(bR E.length fun _=>false)=bR E.length fun j=>decide (colK L E top j∈firsts (colK L E top) 0):=GF fun j _=>by simp[firsts]
    rw[this];exact(by first|rfl|(refine AO rfl (by rfl) (by rfl) (by rfl) ?_ ?_<;>simp[AV.underL,AV.under,MB.under,AG,AJ,AF,AH,AK,AM,-map_take,B1,Ak]))
end
section
attribute [local go_sem] AV.cells
theorem sf68 {H:List MB}{id n:Nat}{O:Spans}{p:Int×Int} (hr:H[id]?=some (.row 2 (O.map spanAV) 0)) (hn:O.length=n) (h0:0<n) (hl:n<=1000000) (hO:∀ q∈O,q.2<=1114111) (hp:0<=p.1/\p.1<=p.2/\p.2<=1114111) (hq:∀ q∈O,0<=q.2) :
  call Pg pol1 90 [.ms id 2 n 0 n,.agg [I p.1,I p.2]] H=some (.ms id 2 (addI O p).length 0 (addI O p).length,H.set id (.row 2 ((addI O p).map spanAV) 0)++[.row 2 [spanAV p] 0]):=by
 have hlt:=(zgb.1 hr).1;have fr:frzArgs pol1 90 0 [.ms id 2 n 0 n,.agg [I p.1,I p.2]] H=some ([.ms id 2 n 0 n,.agg [I p.1,I p.2]],H):=BQ _ _ _ rfl;refine CK (pol:=pol1) Tryz.func90 rfl rfl rfl rfl fr ?_;have rp:∀ H1 r H,retPol pol1 90 H1 r H=some (r,H):=fun H1 r H=>rfl;rcases List.eq_nil_or_concat O with rfl|⟨O',q,rfl⟩
 ·simp at hn;omega
 ·rw[List.concat_eq_append]at *;have hgq:=hO q (by simp);have hgq0:=hq q (by simp);obtain rfl:n=O'.length+1:=by simpa using hn.symm
  have hg1:∀ x:MB,(H++[x])[id]?=some (.row 2 ((O'++[q]).map spanAV) 0):=fun x=>by rw[List.getElem?_append_left hlt];exact hr
  have hs1:∀ x y:MB,(H++[x]).set id y=H.set id y++[x]:=fun x y=>List.set_append_left _ _ hlt;have hgl:=fun x:MB=>GV H x;rw[CP];have hget:((O'++[q]).map spanAV)[O'.length]?=some (spanAV q):=by simp
  have hlen:((O'++[q]).map spanAV).length=O'.length+1:=by simp
  by_cases hm:p.1<=q.2+1
  ·rw[if_pos hm];have hmx:(if p.2 > q.2 then p.2 else q.2)=max q.2 p.2:=by split<;>omega
   have hst:((O'++[q]).map spanAV).set O'.length (.agg [I q.1,I (max q.2 p.2)])=(O'++[(q.1,max q.2 p.2)]).map spanAV:=by simp[List.set_append]
   have hlen2:(O'++[(q.1,max q.2 p.2)]).length=O'.length+1:=by simp
   generalize hE:(O'++[q]).map spanAV=E at *;simp +contextual (disch:=omega) only[Tryz.f90,dd90,go_sem,simprocAttr,evAppend,length_append,map_append,mu90,hg1,hs1,hgl,hget,hlen,evMax,hmx];repeat' (first|intro _|apply And.intro|(unfold dOk;kernel_rfl)|exact St.beq_refl _|exact Ah|(show altO _ _ _ _=true;kernel_rfl)|(show (_||_)=true;kernel_rfl)|(show (_&&_)=true;kernel_rfl))
   rw[hst,rp];simp
  ·rw[if_neg hm];have a1:=fun(x:MB) (t:Bool)=>N9 (H:=H++[x]) (i:=id) (p:=p) (t:=t) (by unfold getRow;rw[hg1]) (zero_le _) (show (O'++[q]).length=O'.length+1 by simp) (by omega);simp only[hs1]at a1;have hlen2:(O'++[q]++[p]).length=O'.length+1+1:=by simp
   generalize hE:(O'++[q]).map spanAV=E at *;simp +contextual (disch:=omega) only[Tryz.f90,dd90,go_sem,simprocAttr,length_append,map_append,mu90,hg1,hs1,hgl,hget,hlen,a1];repeat' (first|intro _|apply And.intro|(unfold dOk;kernel_rfl)|exact St.beq_refl _|exact Ah|(show altO _ _ _ _=true;kernel_rfl)|(show (_||_)=true;kernel_rfl)|(show (_&&_)=true;kernel_rfl))
   rw[rp]
theorem Tw (H:List MB) (p:Int×Int) :
  call Pg pol1 90 [.sl true [],.agg [I p.1,I p.2]] H=some (.ms (H.length+1) 2 1 0 1,H++[.row 2 [spanAV p] 0]++[.row 2 [spanAV p] 0]):=by
 have fr:frzArgs pol1 90 0 [.sl true [],.agg [I p.1,I p.2]] H=some ([.sl true [],.agg [I p.1,I p.2]],H):=BQ _ _ _ rfl;refine CK (pol:=pol1) Tryz.func90 rfl rfl rfl rfl fr ?_;have rp:∀ H1 r H,retPol pol1 90 H1 r H=some (r,H):=fun H1 r H=>rfl;have hgl:=fun x:MB=>GV H x;simp +contextual (disch:=omega) only[Tryz.f90,dd90,go_sem,simprocAttr,evAppend,length_append,map_append,mu90,hgl];repeat' (first|intro _|apply And.intro|(unfold dOk;kernel_rfl)|exact St.beq_refl _|exact Ah|(show altO _ _ _ _=true;kernel_rfl)|(show (_||_)=true;kernel_rfl)|(show (_&&_)=true;kernel_rfl))
 rw[rp]
theorem RU {H:List MB}{i n z:Nat}{rs:List (Int×Int)}{p:Int×Int}{t:Bool} (hi:getRow H i=some (2,rs.map el2,z)) (hz:z<=n) (hn:rs.length=n) (hr:n+1<=4000000000) :
  evAppend Pg H 141 141 (.ms i 2 n 0 n) (.sl t [.agg [I p.1,I p.2]])=some (.ms i 2 (n+1) 0 (n+1),H.set i (.row 2 ((rs++[p]).map el2) z)):=by
 have hs:srcElems Pg H 147 (.sl t [.agg [I p.1,I p.2]])=some [.agg [I p.1,I p.2]]:=rfl;rw[Ag (e:=147) (by kernel_rfl) (by kernel_rfl) (k:=2) (by kernel_rfl) (by_:=16) (by kernel_rfl) (ze:=.agg [I 0,I 0]) (by kernel_rfl) rfl (by omega) hs (by simp[AV.cells,AV.ok]) hi (by rw[length_map];exact hn) hz (AW (by simp;omega) (by omega))];rw[map_append];rfl
theorem Bk (l:List (Int×Int)):AV.plainL (l.map el2)=true:=by
 induction l with
 | nil=>rfl
 | cons a l ih=>simp[AV.plainL,ih];rfl
theorem Ii (top:Int) (s:Spans):∀(L:List Spans) (i:Nat),endsP top i (L++[s])=endsP top i L++endS top (i+L.length) s
 | [],i=>by simp[endsP]
 | t::L,i=>by simp[endsP,Ii top s L (i+1),Nat.add_comm,Nat.add_left_comm]
theorem Nr {top:Int}{L:List Spans}{i:Nat}{s:Spans} (h:L[i]?=some s):endsP top 0 (L.take (i+1))=endsP top 0 (L.take i)++endS top i s:=by
 have hlt:=(zgb.1 h).1;rw[take_add_one,h,Option.toList_some,Ii,zero_add,List.length_take_of_le (Nat.le_of_lt hlt)]
theorem Pq {top:Int}{i k:Nat}{s:Spans}{p:Int×Int} (h:s[k]?=some p):endS top i (s.take (k+1))=endS top i (s.take k)++((if p.1<=top then [(p.1,(i:Int))] else [])++(if p.2+1<=top then [(p.2+1,(i:Int))] else [])):=by
 rw[take_add_one,h];simp[endS]
theorem If {top:Int}{L:List Spans} (htp:top<=1114111) (hs:∀ s∈L,SetV s):∀ x∈endsP top 0 L,Small x:=fun x hx=>by
 obtain⟨_,s,hs',p,hp,h1,h2⟩:=Ez hx;have:=(hs s hs').good p hp;unfold Small;omega
theorem sf67 (L:List Spans) (top:Int) (h0:0<=top) (htp:top<=1114111) (hs:∀ s∈L,SetV s) (hl:L.length<=8192) (hsl:∀ s∈L,s.length<=64) (H:List MB) :
  call Pg pol1 89 [.sl false (L.map setAV),I top] H=some (.sl false ((sortE (endsP top 0 L)).map el2),H):=by
 have hpl:=Ak L;refine AQ Tryz.func89 rfl rfl rfl rfl rfl rfl (fun _=>rfl) (by simp[AV.plain,AV.plainL,hpl]) (by simp[AV.plain,Bk]) ?_ H;simp +contextual (disch:=omega) only[Tryz.f89,dd89,go_sem,simprocAttr,evAppend,length_append,map_append,mu89];refine AS (M:=(Ms 89 3)) rfl L.length (fun i=>(⟨52,[(12,I i),(11,I L.length),(10,.sl false (L.map setAV)),(5,.ms 0 2 (endsP top 0 (L.take i)).length 0 (endsP top 0 (L.take i)).length),(1,I top)],[.row 2 ((endsP top 0 (L.take i)).map el2) 0]⟩:St)) (fun i=>True) ?_ ?_ trivial _ (by first|rfl|(refine AO rfl (by rfl) (by rfl) (by rfl) ?_ ?_<;>simp[AV.underL,AV.under,MB.under,AG,AJ,AF,AH,AK,AM,-map_take,Ak,Bk]))
 ·intro i hi _;obtain⟨s,hsi⟩:∃ s,L[i]?=some s:=⟨_,zga hi⟩;have hsi':(L.map setAV)[i]?=some (setAV s):=by simp[hsi]
  have hm:=zgc hsi;have hv:=hs s hm;have hsl1:=hsl s hm;have hst:=Nr (top:=top) hsi;have hln:=E0 (top:=top) (L:=L.take i) (i:=0) (fun s hs=>hsl s (List.mem_of_mem_take hs));have l1:=List.length_take_le i L;generalize endsP top 0 (L.take i)=l at *;simp +contextual (disch:=omega) only[Tryz.f89,dd89,go_sem,simprocAttr,evAppend,length_append,map_append,mu89,hsi'];refine AS (M:=(Ms 89 6)) rfl s.length (fun k=>(⟨52,[(19,I k),(18,I s.length),(17,.sl false (s.map spanAV)),(12,I i),(11,I L.length),(10,.sl false (L.map setAV)),(6,I i),(5,.ms 0 2 (l++endS top i (s.take k)).length 0 (l++endS top i (s.take k)).length),(1,I top)],[.row 2 ((l++endS top i (s.take k)).map el2) 0]⟩:St)) (fun i=>True) ?_ ?_ trivial _ ?_
  ·intro k hk _;obtain⟨p,hp⟩:∃ p,s[k]?=some p:=⟨_,zga hk⟩;have hp':(s.map spanAV)[k]?=some (spanAV p):=by simp[hp]
   have hg:=hv.good p (zgc hp);have hst2:=Pq (top:=top) (i:=i) hp;have hln2:=Md top i (s.take k);have l3:=List.length_take_le k s;have hw:IntKind.i64.wrap (p.2+1)=p.2+1:=by rw[i64_in];omega
   have hlen3:(l++endS top i (s.take k)).length<=4000000:=by rw[length_append];omega
   have hst3:l++endS top i (s.take (k+1))=(l++endS top i (s.take k))++((if p.1<=top then [(p.1,(i:Int))] else [])++(if p.2+1<=top then [(p.2+1,(i:Int))] else [])):=by rw[hst2,List.append_assoc]
   generalize l++endS top i (s.take (k+1))=l2 at *;generalize l++endS top i (s.take k)=l1 at *;have a1:=fun(x:MB) (t:Bool)=>RU (H:=[MB.row 2 (l1.map el2) 0,x]) (i:=0) (p:=(p.1,(i:Int))) (t:=t) rfl (zero_le _) rfl (by omega);have a2:=fun(x:MB) (t:Bool)=>RU (H:=[MB.row 2 (l1.map el2) 0,x]) (i:=0) (p:=(p.2+1,(i:Int))) (t:=t) rfl (zero_le _) rfl (by omega);have a3:=fun(x:MB) (t:Bool)=>RU (H:=[MB.row 2 ((l1++[(p.1,(i:Int))]).map el2) 0,x]) (i:=0) (n:=l1.length+1) (p:=(p.2+1,(i:Int))) (t:=t) rfl (zero_le _) (by simp) (by omega);simp only[List.set_cons_zero]at a1 a2 a3;by_cases h1:p.1<=top
   ·by_cases h2:p.2+1<=top
    ·rw[if_pos h1,if_pos h2]at hst3;have e1:l2=l1++[(p.1,(i:Int))]++[(p.2+1,(i:Int))]:=by rw[hst3];simp
     have e2:l2.length=l1.length+1+1:=by rw[e1];simp
     rw[<- e1]at a3;rw[e2];simp +contextual (disch:=omega) only[Tryz.f89,dd89,go_sem,simprocAttr,mu89,hp',hw,a1,a3];exact(by first|rfl|(refine AO rfl (by rfl) (by rfl) (by rfl) ?_ ?_<;>simp[AV.underL,AV.under,MB.under,AG,AJ,AF,AH,AK,AM,-map_take,Ak,Bk]))
    ·rw[if_pos h1,if_neg h2,append_nil]at hst3;have e2:l2.length=l1.length+1:=by rw[hst3];simp
     rw[<- hst3]at a1;rw[e2];simp +contextual (disch:=omega) only[Tryz.f89,dd89,go_sem,simprocAttr,mu89,hp',hw,a1];exact(by first|rfl|(refine AO rfl (by rfl) (by rfl) (by rfl) ?_ ?_<;>simp[AV.underL,AV.under,MB.under,AG,AJ,AF,AH,AK,AM,-map_take,Ak,Bk]))
   ·rw[if_neg h1,if_neg (by omega),append_nil,append_nil]at hst3;have h2:¬ p.2+1<=top:=by omega
    rw[hst3];simp +contextual (disch:=omega) only[Tryz.f89,dd89,go_sem,simprocAttr,mu89,hp',hw];exact(by first|rfl|(refine AO rfl (by rfl) (by rfl) (by rfl) ?_ ?_<;>simp[AV.underL,AV.under,MB.under,AG,AJ,AF,AH,AK,AM,-map_take,Ak,Bk]))
  ·intro _;rw[take_length,<- hst];simp +contextual (disch:=omega) only[Tryz.f89,dd89,go_sem,simprocAttr,mu89];exact(by first|rfl|(refine AO rfl (by rfl) (by rfl) (by rfl) ?_ ?_<;>simp[AV.underL,AV.under,MB.under,AG,AJ,AF,AH,AK,AM,-map_take,Ak,Bk]))
  ·rw[List.take_zero,show endS top i []=[] from rfl,append_nil];exact(by first|rfl|(refine AO rfl (by rfl) (by rfl) (by rfl) ?_ ?_<;>simp[AV.underL,AV.under,MB.under,AG,AJ,AF,AH,AK,AM,-map_take,Ak,Bk]))
 ·intro _;rw[take_length];have hln:=E0 (top:=top) (L:=L) (i:=0) hsl;have hsm:=If htp hs;have hse:=Du hsm;generalize endsP top 0 L=l at *;obtain⟨H',h1,h2⟩:=NG hsm (n:=l.length) rfl (by omega) (H:=[.row 2 (l.map el2) 0]) (id:=0) rfl;have h102:call Pg pol1 137 [.ms 0 2 l.length 0 l.length,.clo 138 []] [.row 2 (l.map el2) 0]=some (.tup [],H'):=by
   rw[BL];unfold evStep;rw[if_neg (show ¬ pol1.pure 137=true by decide)];exact h1
  simp +contextual (disch:=omega) only[Tryz.f89,dd89,go_sem,simprocAttr,mu89,h102];exact⟨_,Av h2 (by rw[length_map];exact hse) (Bk _)⟩
end
section
attribute [local go_sem] AV.cells length_append map_append
theorem Tc (p:Int×Int) (hg:goodS p) (H:List MB):call Pg pol1 136 [.agg [I p.1,I p.2]] H=some (.bool true,H):=by
 obtain⟨h1,h2,h3⟩:=hg;refine AQ Tryz.func136 rfl rfl rfl rfl rfl rfl (fun _=>rfl) (by simp[AV.plain,AV.plainL]) (by simp[AV.plain]) ?_ H;simp +contextual (disch:=omega) only[Tryz.f136,Ss,go_sem,simprocAttr,evAppend,Sg,h1,h2,h3];exact fzEq rfl rfl
theorem f168 (O:List (Int×Int)) (hl:O.length<=1000000) (H:List MB):call Pg pol1 168 [.sl false (O.map spanAV)] H=some (if 64<O.length then .tup [.sl false [],I 4] else .tup [.sl false (O.map spanAV),I 0],H):=by
 have hpl:=AH O;by_cases c:64<O.length
 ·rw[if_pos c];refine AQ Tryz.func168 rfl rfl rfl rfl rfl rfl (fun _=>rfl) (by simp[AV.plain,AV.plainL,hpl]) (by simp[AV.plain,AV.plainL]) ?_ H;simp +contextual (disch:=omega) only[Tryz.f168,Sr,go_sem,simprocAttr,evAppend,Sf];exact⟨_,rfl⟩
 ·rw[if_neg c];refine AQ Tryz.func168 rfl rfl rfl rfl rfl rfl (fun _=>rfl) (by simp[AV.plain,AV.plainL,hpl]) (by simp[AV.plain,AV.plainL,hpl]) ?_ H;simp +contextual (disch:=omega) only[Tryz.f168,Sr,go_sem,simprocAttr,evAppend,Sf];exact fzEq (by simp[AV.plain,AV.plainL,hpl]) rfl
theorem UP (b:MB) (O:List (Int×Int)) (m:Nat) (hm:O.length=m) (hl:m<=1000000) :
  call Pg pol1 168 [.ms 1 2 m 0 m] [b,.row 2 (O.map spanAV) 0]=some (if 64<O.length then .tup [.sl false [],I 4] else .tup [.sl false (O.map spanAV),I 0],[b,.row 2 (O.map spanAV) m]):=by
 have hz:=Av (id:=1) (k:=2) (tot:=m) (z:=0) (H:=[b,.row 2 (O.map spanAV) 0]) (els:=O.map spanAV) rfl (by rw[length_map];exact hm) (AH O);have hm2:mark [b,.row 2 (O.map spanAV) 0] 1 m=[b,.row 2 (O.map spanAV) m]:=by simp[mark,getRow]
 rw[hm2]at hz;have hby:pol1.byref 168 0=false:=rfl;rw[A5 (P:=Pg) (pol:=pol1) (f:=168) (l:=[.sl false (O.map spanAV)]) (H1:=[b,.row 2 (O.map spanAV) m]) rfl (by simp only[frzArgs,hby,Bool.false_eq_true,if_false,hz]) (by simp[AV.plainL,AV.plain,AH])];exact f168 O (by omega) _
theorem f90e {H:List MB}{id:Nat}{p:Int×Int} (hr:H[id]?=some (.row 2 [] 0)) :
  call Pg pol1 90 [.ms id 2 0 0 0,.agg [I p.1,I p.2]] H=some (.ms id 2 1 0 1,H.set id (.row 2 [spanAV p] 0)++[.row 2 [spanAV p] 0]):=by
 have hlt:=(zgb.1 hr).1;have fr:frzArgs pol1 90 0 [.ms id 2 0 0 0,.agg [I p.1,I p.2]] H=some ([.ms id 2 0 0 0,.agg [I p.1,I p.2]],H):=BQ _ _ _ rfl;refine CK (pol:=pol1) Tryz.func90 rfl rfl rfl rfl fr ?_;have rp:∀ H1 r H,retPol pol1 90 H1 r H=some (r,H):=fun H1 r H=>rfl;have hg1:∀ x:MB,(H++[x])[id]?=some (.row 2 [] 0):=fun x=>by rw[List.getElem?_append_left hlt];exact hr
 have hs1:∀ x y:MB,(H++[x]).set id y=H.set id y++[x]:=fun x y=>List.set_append_left _ _ hlt;have hgl:=fun x:MB=>GV H x;have a1:=fun(x:MB) (t:Bool)=>N9 (H:=H++[x]) (i:=id) (n:=0) (rs:=[]) (p:=p) (t:=t) (by unfold getRow;rw[hg1];rfl) (zero_le _) rfl (by omega);simp only[hs1]at a1;simp +contextual (disch:=omega) only[Tryz.f90,dd90,go_sem,simprocAttr,mu90,hg1,hs1,hgl,a1];repeat' (first|intro _|apply And.intro|(unfold dOk;kernel_rfl)|exact St.beq_refl _|exact Ah|(show altO _ _ _ _=true;kernel_rfl)|(show (_||_)=true;kernel_rfl)|(show (_&&_)=true;kernel_rfl))
 rw[rp]
theorem PD {g:Nat}{xs:List (Int×Int)} (h:∀ x∈xs,Small x) {n:Nat} (hn:xs.length=n) (h0:0<n) (hl:n<=4000000000) {H:List MB}{id:Nat} (hr:getRow H id=some (2,xs.map el2,0)) :
  sort2Ext Sml g srtE [.ms id 2 n 0 n,.clo g []] H=some (.tup [],H.set id (.row 2 ((sortE xs).map el2) 0)):=by
 subst hn;have hu:=Sml.unL_map xs (smlL xs) (GN h);have hlen:(smlL xs).length=xs.length:=by have:=congrArg List.length (Fm h);simpa using this
 simp only[sort2Ext];rw[if_neg (by rintro⟨h,_⟩;omega)];simp only[hr,hu];rw[if_pos ⟨trivial,hlen.symm,hlen.symm,by omega,by omega⟩];unfold sortE;rw[List.map_map];rfl
theorem c156 (l:List (Int×Int)) (h0:0<l.length) (hl:l.length<=1000000):call Pg pol1 156 [.sl false (l.map spanAV)] []=some (.ms 0 2 l.length 0 l.length,[.row 2 (l.map spanAV) 0]):=by
 cases l with
 | nil=>simp at h0
 | cons x l=>
   rw[BL];unfold evStep;have ha:(((x::l).map spanAV).all fun y=>decide (y.cells.length=2)&&y.cells.all AV.ok)=true:=by
    rw[List.all_eq_true];intro y hy;obtain⟨i,_,rfl⟩:=List.mem_map.1 hy;rfl
   have hx:cloneExt 2 16 [.sl false ((x::l).map spanAV)] []=some (.ms 0 2 (x::l).length 0 (x::l).length,[.row 2 ((x::l).map spanAV) 0]):=by
    simp only[cloneExt,elemsOf];rw[if_pos ⟨ha,AW (by rw[length_map];omega) (by omega),AH _⟩];simp
   rw[if_neg (show ¬ pol1.pure 156=true by decide)];exact hx
theorem f115 (s:List (Int×Int)) (hg:∀ p∈s,goodS p) (h0:0<s.length) (hl:s.length<=100000) (H:List MB) :
  call Pg pol1 115 [.sl false (s.map spanAV)] H=some (if 64<(normL s).length then .tup [.sl false [],I 4] else .tup [.sl false ((normL s).map spanAV),I 0],H):=by
 have hsm:=IR hg;have hperm:=Dt hsm;have hsorted:=Ds s;have hok:=MP hsorted (fun p hp=>hg p (hperm.mem_iff.1 hp));have hSl:(sortE s).length=s.length:=hperm.length_eq;have hSg:∀ p∈sortE s,goodS p:=fun p hp=>hg p (hperm.mem_iff.1 hp);have h166:∀(n:Nat),s.length=n->call Pg pol1 166 [.ms 0 2 n 0 n,.clo 167 []] [.row 2 (s.map spanAV) 0]=some (.tup [],[.row 2 ((sortE s).map spanAV) 0]):=fun n hn=>by
  rw[BL];unfold evStep;rw[if_neg (show ¬ pol1.pure 166=true by decide)];exact PD (g:=167) hsm hn (by omega) (by omega) (H:=[.row 2 (s.map el2) 0]) (id:=0) rfl
 have h156:=c156 s h0 (by omega);have hrp:AV.plain (if 64<(normL s).length then .tup [.sl false [],I 4] else .tup [.sl false ((normL s).map spanAV),I 0])=true:=by split<;>simp[AV.plain,AV.plainL,AH]
 refine AQ Tryz.func115 rfl rfl rfl rfl rfl rfl (fun _=>rfl) (by simp[AV.plain,AV.plainL,AH]) hrp ?_ H;have h166n:=h166 s.length rfl;simp +contextual (disch:=omega) only[Tryz.f115,KO,go_sem,simprocAttr,evAppend,Jw];refine AS (M:=(Ms 115 2)) rfl s.length (fun i=>(⟨38,[(12,I i),(11,I s.length),(10,.sl false (s.map spanAV)),(0,.sl false (s.map spanAV))],[]⟩:St)) (fun i=>True) ?_ ?_ trivial _ (by first|rfl|(refine AO rfl (by rfl) (by rfl) (by rfl) ?_ ?_<;>simp[AV.underL,AV.under,MB.under,AG,AJ,AF,AH,AK,AM,-map_take]))
 ·intro i hi _;obtain⟨p,hp⟩:∃ p,s[i]?=some p:=⟨_,zga hi⟩;have hp':(s.map spanAV)[i]?=some (spanAV p):=by simp[hp]
  have h136:=Tc p (hg p (zgc hp));simp +contextual (disch:=omega) only[Tryz.f115,KO,go_sem,simprocAttr,evAppend,Jw,hp',h136,spanAV];exact(by first|rfl|(refine AO rfl (by rfl) (by rfl) (by rfl) ?_ ?_<;>simp[AV.underL,AV.under,MB.under,AG,AJ,AF,AH,AK,AM,-map_take]))
 ·intro _;unfold normL;generalize sortE s=S at *;simp +contextual (disch:=omega) only[Tryz.f115,KO,go_sem,simprocAttr,evAppend,Jw,h156,h166n];refine AS (M:=(Ms 115 11)) rfl s.length (fun i=>(⟨38,[(26,I i),(25,I s.length),(24,.ms 0 2 s.length 0 s.length),(7,.ms 1 2 (foldI (S.take i)).length 0 (foldI (S.take i)).length)],[.row 2 (S.map spanAV) 0,.row 2 ((foldI (S.take i)).map spanAV) 0]⟩:St)) (fun i=>True) ?_ ?_ trivial _ ?_
  ·intro i hi _;obtain⟨p,hp⟩:∃ p,S[i]?=some p:=⟨_,zga (by omega)⟩;have hp':(S.map spanAV)[i]?=some (spanAV p):=by simp[hp]
   have hgp:=hSg p (zgc hp);have hoi:=hok i (by omega);have hol:=hoi.len;rw[List.length_take]at hol;rw[Ni hp];have hO:=hoi.good;generalize foldI (S.take i)=O at *;obtain⟨g1,g2,g3⟩:=hgp;have h90:∀ b c:MB,call Pg pol1 90 [.ms 1 2 O.length 0 O.length,.agg [I p.1,I p.2]] [b,.row 2 (O.map spanAV) 0,c]=some (.ms 1 2 (addI O p).length 0 (addI O p).length,[b,.row 2 ((addI O p).map spanAV) 0,c,.row 2 [spanAV p] 0]):=fun b c=>by
    rcases Nat.eq_zero_or_pos O.length with h|h
    ·have:O=[]:=List.length_eq_zero_iff.1 h;subst this;exact f90e (H:=[b,.row 2 [] 0,c]) rfl
    ·exact sf68 (H:=[b,.row 2 (O.map spanAV) 0,c]) rfl rfl h (by omega) (fun q hq=>(hO q hq).2.2) ⟨g1,g2,g3⟩ (fun q hq=>by have:=hO q hq;unfold goodS at this;omega)
   generalize addI O p=O2 at *;simp +contextual (disch:=omega) only[Tryz.f115,KO,go_sem,simprocAttr,evAppend,Jw,hp',h90,hSl,spanAV];exact(by first|rfl|(refine AO rfl (by rfl) (by rfl) (by rfl) ?_ ?_<;>simp[AV.underL,AV.under,MB.under,AG,AJ,AF,AH,AK,AM,-map_take]))
  ·intro _;rw[List.take_of_length_le (by omega)];have hoi:=(hok S.length (le_refl _)).len;rw[take_length]at hoi;have h168:=fun b=>UP b (foldI S) _ rfl (by omega);by_cases c:64<(foldI S).length
   ·rw[if_pos c]at h168 |-;simp +contextual (disch:=omega) only[Tryz.f115,KO,go_sem,simprocAttr,evAppend,Jw,h168];exact fzEq rfl rfl
   ·rw[if_neg c]at h168 |-;simp +contextual (disch:=omega) only[Tryz.f115,KO,go_sem,simprocAttr,evAppend,Jw,h168];exact fzEq (by simp[AV.plain,AV.plainL,AH]) rfl
  ·exact(by first|rfl|(refine AO rfl (by rfl) (by rfl) (by rfl) ?_ ?_<;>simp[AV.underL,AV.under,MB.under,AG,AJ,AF,AH,AK,AM,-map_take]))
end
end Go.Ev
