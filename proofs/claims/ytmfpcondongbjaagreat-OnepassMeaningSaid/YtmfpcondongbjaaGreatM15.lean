/- What functions of the program compute; no further conditions. -/
import Derived.Test.YtmfpcondongbjaaGreatM14
set_option linter.unusedVariables false
set_option linter.unusedSimpArgs false
open Array (size_empty)
open List (all_eq_true append_assoc cons_append getElem?_eq_getElem getElem?_eq_none getElem?_set_ne getElem?_take head?_drop length_append length_cons length_map length_nil map_append map_cons map_nil map_take mem_map mem_of_getElem? nil_append)
open Nat (le_refl mul_one zero_add zero_le)
open Bool (and_eq_true or_eq_true)
open Go.Proofs Go.RowKit Go.IntWalk
set_option maxHeartbeats 16000000
set_option maxRecDepth 100000
namespace Go.Ev
attribute [local go_sem] BM evBin evBuild evMakeSlice AV.cells AV.ok splice
section
attribute [local go_sem] Ae Al bndO bnd evEq eqCells not_false_eq_true not_true_eq_false AX size_empty length_append map_append tySzE head?_drop mul_one AQ AU AO AR AS AY
structure LeastTo (ins:List Ins) (i:Nat) (l:List Int):Prop where
 srt:l.Pairwise (·< ·)
 has:∀ n x,n<i->ins[n]?=some x->x.op=1->0<x.set.length->keyI ins n∈l
 len:l.length<=i
theorem LeastTo.put {ins:List Ins}{i:Nat}{l:List Int} (h:LeastTo ins i l) {x:Ins} (hx:ins[i]?=some x) {n:Int} (hn:keyI ins i=n) {k:Nat} (hk:k<=l.length) (h1:∀ j y,j<k->l[j]?=some y->y<n) (h2:∀ y,l[k]?=some y->n<y):LeastTo ins (i+1) (l.take k++([n]++l.drop k)):=by
 have hdrop:∀ y∈l.drop k,n<y:=fun y hy=>by
  obtain⟨j,hj⟩:=List.mem_iff_getElem?.1 hy;rw[List.getElem?_drop]at hj;cases j with
  | zero=>exact h2 y hj
  | succ j=>
    obtain⟨hb,rfl⟩:=List.getElem?_eq_some_iff.1 hj;have:=List.pairwise_iff_getElem.1 h.srt k (k+(j+1)) (by omega) hb (by omega);have h3:=h2 _ (getElem?_eq_getElem (by omega));omega
 have htake:∀ y∈l.take k,y<n:=fun y hy=>by
  obtain⟨j,hj⟩:=List.mem_iff_getElem?.1 hy;rw[getElem?_take]at hj;split at hj
  ·rename_i hjk;exact h1 j y hjk hj
  ·cases hj
 refine⟨?_,?_,?_⟩
 ·rw[List.pairwise_append];refine⟨h.srt.sublist (List.take_sublist _ _),?_,?_⟩
  ·rw[List.singleton_append,List.pairwise_cons];exact⟨hdrop,h.srt.sublist (List.drop_sublist _ _)⟩
  ·intro a ha b hb;have:=htake a ha;rcases List.mem_append.1 hb with hb|hb
   ·simp at hb;omega
   ·have:=hdrop b hb;omega
 ·intro m y hm hy h3 h4;rcases Nat.lt_succ_iff_lt_or_eq.1 hm with hlt|rfl
  ·have:=h.has m y hlt hy h3 h4;rw[<- List.take_append_drop k l]at this;rcases List.mem_append.1 this with h|h
   ·exact List.mem_append_left _ h
   ·exact List.mem_append_right _ (List.mem_append_right _ h)
  ·rw[hn];simp
 ·have:=h.len;simp;omega
theorem LeastTo.skip {ins:List Ins}{i:Nat}{l:List Int} (h:LeastTo ins i l) (hs:∀ x,ins[i]?=some x->x.op=1->0<x.set.length->keyI ins i∈l):LeastTo ins (i+1) l:=by
 refine⟨h.srt,fun n x hn hx h1 h2=>?_,Nat.le_succ_of_le h.len⟩;rcases Nat.lt_succ_iff_lt_or_eq.1 hn with hlt|rfl
 ·exact h.has n x hlt hx h1 h2
 ·exact hs x hx h1 h2
theorem Mp (l:List Int):(l.map I).all (fun y=>decide (y.cells.length=1)&&y.cells.all AV.ok)=true:=by simp[AV.cells,AV.ok]
theorem appI {H:List MB}{i n:Nat}{rs l:List Int}{t:Bool} (hi:getRow H i=some (1,rs.map I,0)) (hn:rs.length=n) (hr:n+l.length<=4000000000) :
  evAppend Pg H 22 22 (.ms i 1 n 0 n) (.sl t (l.map I))=some (.ms i 1 (n+l.length) 0 (n+l.length),H.set i (.row 1 ((rs++l).map I) 0)):=by
 have hs:srcElems Pg H 3 (.sl t (l.map I))=some (l.map I):=rfl;rw[Bp (e:=3) (by kernel_rfl) (by kernel_rfl) (k:=1) (by kernel_rfl) (by_:=8) (by kernel_rfl) (ze:=I 0) (by kernel_rfl) rfl (by omega) hs (Mp l) hi (by rw[length_map];exact hn) (zero_le _) (AY (by simpa using hr) (by omega))];rw[map_append,length_map]
theorem J7 (H:List MB) {l:List Int}{t:Bool} (hl:0<l.length) (hr:l.length<=4000000000) :
  evAppend Pg H 22 22 (.sl true []) (.sl t (l.map I))=some (.ms H.length 1 l.length 0 l.length,H++[.row 1 (l.map I) 0]):=by
 cases l with
 | nil=>cases hl
 | cons a l=>
   have hs:srcElems Pg H 3 (.sl t ((a::l).map I))=some ((a::l).map I):=rfl;unfold evAppend;simp only[show tyElem Pg 22=some 3 by kernel_rfl,show tyNotInt Pg 22=true by kernel_rfl,show tySz Pg 3=some 1 by kernel_rfl,show tyBytes Pg 3=some 8 by kernel_rfl,show tyZero Pg 3=some (I 0) by kernel_rfl,hs];rw[if_pos ⟨Mp _,by omega,rfl⟩];simp only[map_cons];rw[if_pos ⟨trivial,AY (by simp at hr |-;omega) (by omega),rfl⟩];simp
theorem M5 (H:List MB) {t:Bool}:evAppend Pg H 22 22 (.sl true []) (.sl t [])=some (.sl true [],H):=by
 unfold evAppend;simp only[show tyElem Pg 22=some 3 by kernel_rfl,show tyNotInt Pg 22=true by kernel_rfl,show tySz Pg 3=some 1 by kernel_rfl,show tyBytes Pg 3=some 8 by kernel_rfl,show tyZero Pg 3=some (I 0) by kernel_rfl,srcElems];rfl
theorem g40 {g:Prg} (h:OkP g.ins):∃ r:AV,(∃ l:List Int,r=.sl false (l.map I)/\LeastTo g.ins g.ins.length l)/\∀ H,call Pg pol1 40 [prgAV g] H=some (r,H):=by
 have hl:=h.len;refine CL Tryz.func40 rfl rfl rfl rfl rfl rfl (fun _=>rfl) (by simp[AV.plain,AV.plainL,AF,AG,AH,AI]) ?_ ?_
 ·rintro r ⟨l,rfl,_⟩;exact AF l
 have hnil:∀ H,fz (.sl true []) H=some (.sl false [],H):=fun H=>rfl;simp +contextual (disch:=omega) only[Tryz.f40,dd40,go_sem,simprocAttr,evAppend,mu40,↓AD,↓AC,↓AB,↓AA,hnil];have hu:[MB.row 3 [prgAV g] 0].all (MB.under 1)=true:=by
  have h1:=AE 1 _ (AH g.ins);simp[MB.under,AV.underL,AV.under,h1]
 have hul:∀ l:List Int,AV.underL 1 (l.map I)=true:=fun l=>AE 1 _ (AF l);have hu2:∀(x:Ins) (p:Int×Int) (m:List (Int×Int)),[MB.row 3 [prgAV g] 0,.row 5 [.agg [I 1,I x.x,I x.y,I x.n,.sl false (spanAV p::m.map spanAV)]] 0].all (MB.under 2)=true:=fun x p m=>by
  have h1:=AE 2 _ (AH g.ins);have h2:=AE 2 _ (AG (p::m));simp only[map_cons]at h2;simp[MB.under,AV.underL,AV.under,h1]at h2 |-;exact h2
 have hk2:∀(k i:Nat) (n:Int) (l:List Int),AV.underL 2 [.int .i64 k,I n,.int .i64 i,.sl false (l.map I),.rf 0 1 0 0]=true:=fun k i n l=>by
  have:=AE 2 _ (AF l);simp[AV.underL,AV.under,this]
 have hk1:∀(i:Nat) (l:List Int),AV.underL 1 [.int .i64 i,.sl false (l.map I),.rf 0 1 0 0]=true:=fun i l=>by simp[AV.underL,AV.under,hul]
 refine Cw (σ:=Nat×List Int) (M:=(mskOf (pol1.mask 40) (pol1.gc 40) (pol1.acts 40) 0 3)) (by rfl) (fun s=>(⟨73,[(4,NV s.1),(3,.sl false (s.2.map I)),(1,.rf 0 1 0 0)],[.row 3 [prgAV g] 0]⟩:St)) (fun s=>s.1<=g.ins.length/\LeastTo g.ins s.1 s.2) (fun s=>g.ins.length-s.1) (0,[]) ?_ ⟨zero_le _,List.Pairwise.nil,fun n x hn=>by omega,le_refl _⟩ _ ?_
 ·rintro⟨i,l⟩ ⟨hi,hL⟩;simp only at hi hL |-;have hll:=hL.len;have h41:=fun n H=>g41 l n (by omega) H;by_cases hil:i<g.ins.length
  ·obtain⟨x,hx⟩:∃ x,g.ins[i]?=some x:=⟨_,getElem?_eq_getElem hil⟩;have hx':(g.ins.map insAV)[i]?=some (insAV x):=by simp[hx]
   have hlt:((i:Int)<((g.ins.length:Nat):Int))=True:=eq_true (by omega);have hwi:IntKind.i64.wrap ((i:Int)+1)=((i+1:Nat):Int):=by rw[i64_in]<;>omega
   by_cases h1:x.op=1
   ·by_cases hs:0<x.set.length
    ·obtain⟨p,m,hp⟩:∃ p m,x.set=p::m:=by cases hq:x.set with
      | nil=>rw[hq]at hs;cases hs
      | cons p m=>exact⟨p,m,rfl⟩
     have hk:keyI g.ins i=p.1:=by simp[keyI,hx,hp]
     by_cases hm:p.1∈l
     ·simp +contextual (disch:=omega) only[Tryz.f40,dd40,go_sem,simprocAttr,evAppend,mu40,↓AD,↓AC,↓AB,↓AA,hx',h1,hp,h41,hm,hlt,hwi,Ab];refine⟨(i+1,l),⟨hil,hL.skip fun y hy _ _=>by rw[hk];exact hm⟩,by simp only;omega,Ac rfl rfl (hk1 i l) hu rfl⟩
     ·simp +contextual (disch:=omega) only[Tryz.f40,dd40,go_sem,simprocAttr,evAppend,mu40,↓AD,↓AC,↓AB,↓AA,hx',h1,hp,h41,hm,hlt,hwi,Ab];refine Cw (σ:=Nat) (M:=(mskOf (pol1.mask 40) (pol1.gc 40) (pol1.acts 40) 0 9)) (by rfl) (fun k=>(⟨73,[(7,NV k),(6,I p.1),(4,NV i),(3,.sl false (l.map I)),(1,.rf 0 1 0 0)],[.row 3 [prgAV g] 0,.row 5 [.agg [I 1,I x.x,I x.y,I x.n,.sl false (spanAV p::m.map spanAV)]] 0]⟩:St)) (fun k=>k<=l.length/\∀ j y,j<k->l[j]?=some y->y<p.1) (fun k=>l.length-k) 0 ?_ ⟨zero_le _,fun j y h=>by omega⟩ _ ?_
      ·rintro k ⟨hkl,hkk⟩;have hwk:IntKind.i64.wrap ((k:Int)+1)=((k+1:Nat):Int):=by rw[i64_in]<;>omega
       obtain⟨tk,htk⟩:∃ tk,tk=l.take k:=⟨_,rfl⟩;obtain⟨dk,hdk⟩:∃ dk,dk=l.drop k:=⟨_,rfl⟩;have ht:List.take k (List.map I l)=List.map I tk:=by rw[htk,map_take]
       have hd:List.drop k (List.take l.length (List.map I l))=List.map I dk:=by rw[List.take_of_length_le (by simp),hdk,List.map_drop]
       have htl:tk.length<=100000:=by rw[htk,List.length_take];omega
       have hdl:dk.length<=100000:=by rw[hdk,List.length_drop];omega
       have hkl3:(k<=l.length)=True:=eq_true hkl;have done:(∀ y,l[k]?=some y->p.1<y)->LeastTo g.ins (i+1) (l.take k++([p.1]++l.drop k)):=fun h2=>hL.put hx hk hkl hkk h2;by_cases hkl2:k<l.length
       ·obtain⟨y,hy⟩:∃ y,l[k]?=some y:=⟨_,getElem?_eq_getElem hkl2⟩;have hy':(l.map I)[k]?=some (I y):=by simp[hy]
        have hltk:((k:Int)<((l.length:Nat):Int))=True:=eq_true (by omega);by_cases hyp:y<p.1
        ·simp +contextual (disch:=omega) only[Tryz.f40,dd40,go_sem,simprocAttr,evAppend,mu40,↓AD,↓AC,↓AB,↓AA,hltk,hy',hyp,hwk,Ab];refine⟨k+1,⟨hkl2,fun j z hj hz=>?_⟩,by omega,Ac rfl rfl (hk2 (k+1) i p.1 l) (hu2 x p m) rfl⟩;rcases Nat.lt_succ_iff_lt_or_eq.1 hj with hlt|rfl
         ·exact hkk j z hlt hz
         ·rw[hy]at hz;cases hz;exact hyp
        ·have hne:∀ z,l[k]?=some z->p.1<z:=fun z hz=>by
          rw[hy]at hz;cases hz;have:y≠p.1:=fun e=>hm (e ▸ mem_of_getElem? hy);omega
         have dn:=done hne;rw[<- htk,<- hdk]at dn;simp +contextual (disch:=omega) only[Tryz.f40,dd40,go_sem,simprocAttr,mu40,↓AD,↓AC,↓AB,↓AA,hltk,hy',hyp,hwk,Ab,hkl3,ht,hd,Bool.false_and];refine⟨(by simp),?_⟩;by_cases h0:tk=[]
         ·subst h0;have ap1:=J7 [MB.row 3 [prgAV g] 0,.row 5 [.agg [I 1,I x.x,I x.y,I x.n,.sl false (spanAV p::m.map spanAV)]] 0] (l:=[p.1]) (t:=true) (by simp) (by simp);have ap2:=fun t=>appI (H:=[MB.row 3 [prgAV g] 0,.row 5 [.agg [I 1,I x.x,I x.y,I x.n,.sl false (spanAV p::m.map spanAV)]] 0,.row 1 [I p.1] 0]) (i:=2) (n:=1) (rs:=[p.1]) (l:=dk) (t:=t) rfl rfl (by omega);have hf:=Dq (H:=[MB.row 3 [prgAV g] 0,.row 5 [.agg [I 1,I x.x,I x.y,I x.n,.sl false (spanAV p::m.map spanAV)]] 0,.row 1 (([p.1]++dk).map I) 0]) (id:=2) (k:=1) (tot:=1+dk.length) (z:=0) (els:=([p.1]++dk).map I) rfl (by simp;omega) (AF _);simp only[map_cons,map_nil,length_cons,length_nil,cons_append,nil_append,List.set,zero_add]at ap1 ap2 hf;simp +contextual (disch:=omega) only[Tryz.f40,dd40,go_sem,simprocAttr,mu40,↓AD,↓AC,↓AB,↓AA,hltk,hwk,hwi,hkl3,ht,hd,Bool.false_and,M5,map_nil,ap1,ap2,hf];refine⟨(by simp),?_⟩;exact⟨(i+1,[]++([p.1]++dk)),⟨hil,dn⟩,by simp only;omega,Ac rfl rfl (hk1 (i+1) (p.1::dk)) hu rfl⟩
         ·have hpos:0<tk.length:=List.length_pos_iff.2 h0;have ap0:=fun t=>J7 [MB.row 3 [prgAV g] 0,.row 5 [.agg [I 1,I x.x,I x.y,I x.n,.sl false (spanAV p::m.map spanAV)]] 0] (l:=tk) (t:=t) hpos (by omega);have ap1:=fun t=>appI (H:=[MB.row 3 [prgAV g] 0,.row 5 [.agg [I 1,I x.x,I x.y,I x.n,.sl false (spanAV p::m.map spanAV)]] 0,.row 1 (tk.map I) 0]) (i:=2) (n:=tk.length) (rs:=tk) (l:=[p.1]) (t:=t) rfl rfl (by simp;omega);have ap2:=fun t=>appI (H:=[MB.row 3 [prgAV g] 0,.row 5 [.agg [I 1,I x.x,I x.y,I x.n,.sl false (spanAV p::m.map spanAV)]] 0,.row 1 ((tk++[p.1]).map I) 0]) (i:=2) (n:=tk.length+1) (rs:=tk++[p.1]) (l:=dk) (t:=t) rfl (by simp) (by omega);have hf:=Dq (H:=[MB.row 3 [prgAV g] 0,.row 5 [.agg [I 1,I x.x,I x.y,I x.n,.sl false (spanAV p::m.map spanAV)]] 0,.row 1 ((tk++[p.1]++dk).map I) 0]) (id:=2) (k:=1) (tot:=tk.length+1+dk.length) (z:=0) (els:=(tk++[p.1]++dk).map I) rfl (by simp;omega) (AF _);simp only[map_cons,map_nil,map_append,length_cons,length_nil,cons_append,nil_append,append_assoc,List.set,zero_add]at ap0 ap1 ap2 hf;simp +contextual (disch:=omega) only[Tryz.f40,dd40,go_sem,simprocAttr,mu40,↓AD,↓AC,↓AB,↓AA,hltk,hwk,hwi,hkl3,ht,hd,Bool.false_and,ap0,ap1,ap2,hf,append_assoc];refine⟨(by simp),?_⟩;refine⟨(i+1,tk++([p.1]++dk)),⟨hil,dn⟩,by simp only;omega,?_⟩;simp only[map_append,map_cons,map_nil];have:=hk1 (i+1) (tk++([p.1]++dk));simp only[map_append,map_cons,map_nil]at this;exact Ac rfl rfl this hu rfl
       ·have hltk:((k:Int)<((l.length:Nat):Int))=False:=eq_false (by omega);have hkk2:k=l.length:=by omega
        have dn:=done (fun z hz=>absurd (List.getElem?_eq_some_iff.1 hz).1 (by omega));rw[<- htk,<- hdk]at dn;simp +contextual (disch:=omega) only[Tryz.f40,dd40,go_sem,simprocAttr,mu40,↓AD,↓AC,↓AB,↓AA,hltk,hwk,Ab,hkl3,ht,hd,Bool.false_and];refine⟨(by simp),?_⟩;by_cases h0:tk=[]
        ·subst h0;have ap1:=J7 [MB.row 3 [prgAV g] 0,.row 5 [.agg [I 1,I x.x,I x.y,I x.n,.sl false (spanAV p::m.map spanAV)]] 0] (l:=[p.1]) (t:=true) (by simp) (by simp);have ap2:=fun t=>appI (H:=[MB.row 3 [prgAV g] 0,.row 5 [.agg [I 1,I x.x,I x.y,I x.n,.sl false (spanAV p::m.map spanAV)]] 0,.row 1 [I p.1] 0]) (i:=2) (n:=1) (rs:=[p.1]) (l:=dk) (t:=t) rfl rfl (by omega);have hf:=Dq (H:=[MB.row 3 [prgAV g] 0,.row 5 [.agg [I 1,I x.x,I x.y,I x.n,.sl false (spanAV p::m.map spanAV)]] 0,.row 1 (([p.1]++dk).map I) 0]) (id:=2) (k:=1) (tot:=1+dk.length) (z:=0) (els:=([p.1]++dk).map I) rfl (by simp;omega) (AF _);simp only[map_cons,map_nil,length_cons,length_nil,cons_append,nil_append,List.set,zero_add]at ap1 ap2 hf;simp +contextual (disch:=omega) only[Tryz.f40,dd40,go_sem,simprocAttr,mu40,↓AD,↓AC,↓AB,↓AA,hltk,hwk,hwi,hkl3,ht,hd,Bool.false_and,M5,map_nil,ap1,ap2,hf];refine⟨(by simp),?_⟩;exact⟨(i+1,[]++([p.1]++dk)),⟨hil,dn⟩,by simp only;omega,Ac rfl rfl (hk1 (i+1) (p.1::dk)) hu rfl⟩
        ·have hpos:0<tk.length:=List.length_pos_iff.2 h0;have ap0:=fun t=>J7 [MB.row 3 [prgAV g] 0,.row 5 [.agg [I 1,I x.x,I x.y,I x.n,.sl false (spanAV p::m.map spanAV)]] 0] (l:=tk) (t:=t) hpos (by omega);have ap1:=fun t=>appI (H:=[MB.row 3 [prgAV g] 0,.row 5 [.agg [I 1,I x.x,I x.y,I x.n,.sl false (spanAV p::m.map spanAV)]] 0,.row 1 (tk.map I) 0]) (i:=2) (n:=tk.length) (rs:=tk) (l:=[p.1]) (t:=t) rfl rfl (by simp;omega);have ap2:=fun t=>appI (H:=[MB.row 3 [prgAV g] 0,.row 5 [.agg [I 1,I x.x,I x.y,I x.n,.sl false (spanAV p::m.map spanAV)]] 0,.row 1 ((tk++[p.1]).map I) 0]) (i:=2) (n:=tk.length+1) (rs:=tk++[p.1]) (l:=dk) (t:=t) rfl (by simp) (by omega);have hf:=Dq (H:=[MB.row 3 [prgAV g] 0,.row 5 [.agg [I 1,I x.x,I x.y,I x.n,.sl false (spanAV p::m.map spanAV)]] 0,.row 1 ((tk++[p.1]++dk).map I) 0]) (id:=2) (k:=1) (tot:=tk.length+1+dk.length) (z:=0) (els:=(tk++[p.1]++dk).map I) rfl (by simp;omega) (AF _);simp only[map_cons,map_nil,map_append,length_cons,length_nil,cons_append,nil_append,append_assoc,List.set,zero_add]at ap0 ap1 ap2 hf;simp +contextual (disch:=omega) only[Tryz.f40,dd40,go_sem,simprocAttr,mu40,↓AD,↓AC,↓AB,↓AA,hltk,hwk,hwi,hkl3,ht,hd,Bool.false_and,ap0,ap1,ap2,hf,append_assoc];refine⟨(by simp),?_⟩;refine⟨(i+1,tk++([p.1]++dk)),⟨hil,dn⟩,by simp only;omega,?_⟩;simp only[map_append,map_cons,map_nil];have:=hk1 (i+1) (tk++([p.1]++dk));simp only[map_append,map_cons,map_nil]at this;exact Ac rfl rfl this hu rfl
      ·exact Ac rfl rfl (hk2 0 i p.1 l) (hu2 x p m) rfl
    ·have hs0:x.set=[]:=List.length_eq_zero_iff.1 (by omega);simp +contextual (disch:=omega) only[Tryz.f40,dd40,go_sem,simprocAttr,evAppend,mu40,↓AD,↓AC,↓AB,↓AA,hx',h1,hs0,hlt,hwi,Ab];refine⟨(i+1,l),⟨hil,hL.skip fun y hy _ h3=>?_⟩,by simp only;omega,Ac rfl rfl (hk1 i l) hu rfl⟩;rw[hx]at hy;cases hy;exact absurd h3 hs
   ·simp +contextual (disch:=omega) only[Tryz.f40,dd40,go_sem,simprocAttr,evAppend,mu40,↓AD,↓AC,↓AB,↓AA,hx',h1,hlt,hwi,Ab];refine⟨(i+1,l),⟨hil,hL.skip fun y hy h2 _=>?_⟩,by simp only;omega,Ac rfl rfl (hk1 i l) hu rfl⟩;rw[hx]at hy;cases hy;exact absurd h2 h1
  ·have hlt:((i:Int)<((g.ins.length:Nat):Int))=False:=eq_false (by omega);simp +contextual (disch:=omega) only[Tryz.f40,dd40,go_sem,simprocAttr,evAppend,mu40,↓AD,↓AC,↓AB,↓AA,hlt];exact⟨_,⟨l,rfl,by rw[show g.ins.length=i by omega];exact hL⟩,_,Au _ (AF l)⟩
 ·exact Ac rfl rfl (hk1 0 []) hu rfl
end
section
attribute [local go_sem] Ae Al bndO bnd evEq eqCells not_false_eq_true not_true_eq_false AX size_empty length_append map_append tySzE head?_drop mul_one AQ AU AO AR AS AY
theorem XOk.txl {ins:List Ins}{xs:List RS} (h:XOk ins xs):∀(j:Nat) (r:RS),xs[j]?=some r->r.tx.length<=j:=by
 intro j
 induction j using Nat.strongRecOn with
 | ind j ih=>
   intro r hr;rcases h.bk j r hr with ⟨_,h1⟩|⟨k,q,h1,_,h3,h4⟩
   ·rw[h1];exact zero_le _
   ·have:=ih k h1 q h3;rw[h4];simp;omega
end
section
attribute [local go_sem] Ae Al bndO bnd evEq eqCells not_false_eq_true not_true_eq_false AX size_empty length_append map_append tySzE head?_drop mul_one AQ AU AO AR AS AY
abbrev rsAV (r:RS):AV:=.agg [NV r.st,I r.be,I r.sy]
theorem D3 (l:List RS):AV.plainL (l.map rsAV)=true:=by
 induction l with
 | nil=>rfl
 | cons a l ih=>simp[AV.plainL,AV.plain,ih]
abbrev entX (xs:List RS):List (AV×AV):=xs.map fun r=>(NV r.st,AV.bool true)
theorem Kw (b:Nat):∀ xs:List RS,findMp (NV b) (entX xs)=if b∈xs.map (·.st) then some (.bool true) else none
 | []=>rfl
 | r::xs=>by
   have ih:=Kw b xs;simp only[entX,map_cons,findMp]at ih |-;by_cases e:r.st=b
   ·subst e;rw[if_pos (by simp[AV.beq])];simp
   ·rw[if_neg (by simp[AV.beq,e];omega),ih];simp[Ne.symm e]
theorem MN (b:Nat):∀ xs:List RS,b ∉ xs.map (·.st)->updMp (NV b) (.bool true) (entX xs)=entX xs++[(NV b,.bool true)]
 | [],_=>rfl
 | r::xs,h=>by
   have h1:r.st≠b:=fun e=>h (by simp[e]);have ih:=MN b xs (fun hm=>h (by simp at hm |-;exact .inr hm));simp only[entX,map_cons,updMp]at ih |-;rw[if_neg (by simp[AV.beq];omega),ih];rfl
theorem TP {H:List MB}{i n:Nat}{rs:List RS}{a b c:Int}{t:Bool} (hi:getRow H i=some (3,rs.map rsAV,0)) (hn:rs.length=n) (hr:n+1<=4000000000) :
  evAppend Pg H 86 86 (.ms i 3 n 0 n) (.sl t [.agg [I a,I b,I c]])=some (.ms i 3 (n+1) 0 (n+1),H.set i (.row 3 (rs.map rsAV++[.agg [I a,I b,I c]]) 0)):=by
 have hs:srcElems Pg H 94 (.sl t [.agg [I a,I b,I c]])=some [.agg [I a,I b,I c]]:=rfl;rw[Bp (e:=94) (by kernel_rfl) (by kernel_rfl) (k:=3) (by kernel_rfl) (by_:=24) (by kernel_rfl) (ze:=.agg [I 0,I 0,I 0]) (by kernel_rfl) rfl (by omega) hs rfl hi (by rw[length_map];exact hn) (zero_le _) (AY (by simpa using hr) (by omega))];rfl
theorem EC (xs:List RS):[MB.row 3 (xs.map rsAV) 0,.mp (.int .i64) (entX xs)].all (MB.under 2)=true:=by
 have h1:=AE 2 _ (D3 xs);have h2:MB.underE 2 (entX xs)=true:=by
  induction xs with
  | nil=>rfl
  | cons r xs ih=>
    have:=ih (AE 2 _ (D3 xs));simp only[entX,map_cons,MB.underE,AV.under,this,Bool.and_self]
 simp[MB.under,h1,h2]
theorem Qr {id n len:Nat}{b:Bool}{H:List MB}{xs:List RS} (hr:getRow H id=some (3,xs.map rsAV,0)) (h1:xs.length=n) (h2:len<=n) :
  ∃ H',fz (.tup [.ms id 3 n 0 len,.bool b]) H=some (.tup [.sl false ((xs.take len).map rsAV),.bool b],H'):=by
 refine⟨mark H id len,?_⟩;have h3:fzA (fzJ 6) (.ms id 3 n 0 len) H=some (.sl false ((xs.take len).map rsAV),mark H id len):=by
  have:=Oy (n:=5) (len:=len) hr (by rw[length_map];exact h1) h2 (by rw[<- map_take];exact D3 _)
  rwa [<- map_take]at this
 simp only[fz,EU,fzL,h3];rfl
theorem XOk.take {ins:List Ins}{xs:List RS} (h:XOk ins xs) (n:Nat):XOk ins (xs.take n):=by
 refine⟨?_,fun r hr=>h.lt r (List.mem_of_mem_take hr),fun j r hr=>?_⟩
 ·rw[map_take];exact(List.take_sublist _ _).nodup h.nd
 ·rw[getElem?_take]at hr;split at hr
  ·rename_i hj;rcases h.bk j r hr with h1|⟨k,q,h1,h2,h3,h4⟩
   ·exact .inl h1
   ·exact .inr ⟨k,q,h1,h2,by rw[getElem?_take,if_pos (by omega)];exact h3,h4⟩
  ·cases hr
theorem XOk.addL {ins:List Ins} (hp:OkP ins) {xs:List RS} (h:XOk ins xs) {i n:Nat}{st:Nat}{q:RS} (hn:n∈(exS ins st).rd) (hi:xs[i]?=some q):XOk ins (Go.Ev.addL ins i q xs n):=by
 unfold Go.Ev.addL;split
 ·exact h
 ·rename_i hne;obtain⟨j',hj',h3,_⟩:=Eg hp hn;exact h.add (hp.sym n j' hj' h3) hne hi
def Explored (ins:List Ins) (xs:List RS) (fk:Bool):Prop:=XOk ins xs/\∀ syms,LeastTo ins ins.length syms->srch ins syms (ins.length+1) 0 xs0=(xs,fk)
theorem f36 {ins:List Ins} (h:OkP ins):∃ r:AV,(∃ xs fk,Explored ins xs fk/\r=.tup [.sl false (xs.map rsAV),.bool fk])/\∀ H,call Pg pol1 36 [.sl false (ins.map insAV)] H=some (r,H):=by
 have hl:=h.len;refine CL Tryz.func36 rfl rfl rfl rfl rfl rfl (fun _=>rfl) (by simp[AV.plain,AV.plainL,AF,AG,AH,AI]) ?_ ?_
 ·rintro r ⟨xs,fk,_,rfl⟩;simp[AV.plain,AV.plainL,D3]
 simp +contextual (disch:=omega) only[Tryz.f36,dd36,go_sem,simprocAttr,evAppend,mu36,↓AD,↓AC,↓AB,↓AA];have hk4:∀(i n:Nat),AV.underL 2 [.int .i64 i,.mpr 1,.ms 0 3 n 0 n,.sl false (ins.map insAV)]=true:=fun i n=>by
  have:=AE 2 _ (AH ins);simp[AV.underL,AV.under,this]
 refine Cw (σ:=Nat×List RS) (M:=(mskOf (pol1.mask 36) (pol1.gc 36) (pol1.acts 36) 0 4)) (by rfl) (fun s=>(⟨67,[(6,NV s.1),(5,.mpr 1),(4,.ms 0 3 s.2.length 0 s.2.length),(0,.sl false (ins.map insAV))],[.row 3 (s.2.map rsAV) 0,.mp (.int .i64) (entX s.2)]⟩:St))
  (fun s=>XOk ins s.2/\s.1<=s.2.length/\∀ syms,LeastTo ins ins.length syms->srch ins syms (ins.length+1-s.1) s.1 s.2=srch ins syms (ins.length+1) 0 xs0) (fun s=>ins.length+1-s.1) (0,xs0) ?_ ⟨Nt h,zero_le _,fun _ _=>rfl⟩ _ ?_
 ·rintro⟨i,xs⟩ ⟨hx,hi,hr⟩;simp only at hx hi hr |-;have hxl:=hx.len;obtain⟨f,hf⟩:∃ f,ins.length+1-i=f+1:=⟨ins.length-i,by omega⟩;rw[hf]at hr;by_cases hil:i<xs.length
  ·obtain⟨q,hq⟩:∃ q,xs[i]?=some q:=⟨_,getElem?_eq_getElem hil⟩;have hq':(xs.map rsAV)[i]?=some (rsAV q):=by simp[hq]
   have hqs:=hx.lt q (mem_of_getElem? hq);obtain⟨r75,⟨l,b,rfl,hb1,hb2⟩,h75⟩:=f75 h hqs;have hlt:((i:Int)<((xs.length:Nat):Int))=True:=eq_true (by omega);have hwi:IntKind.i64.wrap ((i:Int)+1)=((i+1:Nat):Int):=by rw[i64_in]<;>omega
   simp only[srch,hq]at hr;cases b with
   | true=>
     simp only[if_pos (hb1 rfl)]at hr;simp +contextual (disch:=omega) only[Tryz.f36,dd36,go_sem,simprocAttr,evAppend,mu36,↓AD,↓AC,↓AB,↓AA,hlt,hq',h75,hwi,Ab];exact⟨_,⟨_,_,⟨hx.take (i+1),fun syms hs=>(hr syms hs).symm⟩,rfl⟩,Qr rfl rfl (by omega)⟩
   | false=>
     obtain⟨hnf,hperm,hsrt⟩:=hb2 rfl;simp only[if_neg hnf]at hr;simp +contextual (disch:=omega) only[Tryz.f36,dd36,go_sem,simprocAttr,evAppend,mu36,↓AD,↓AC,↓AB,↓AA,hlt,hq',h75,hwi,Ab];have hll:=hperm.length_eq;have hrl:=(Lo h hqs).1;have hk7:∀(j i n m:Nat),AV.underL 2 [.int .i64 j,.int .i64 m,.sl false (l.map NV),.int .i64 i,.mpr 1,.ms 0 3 n 0 n,.sl false (ins.map insAV)]=true:=fun j i n m=>by
      have h1:=AE 2 _ (AH ins);have h2:=AE 2 _ (FL l);simp[AV.underL,AV.under,h1,h2]
     refine Cw (σ:=Nat×List RS) (M:=(mskOf (pol1.mask 36) (pol1.gc 36) (pol1.acts 36) 0 10)) (by rfl) (fun s=>(⟨67,[(38,NV s.1),(37,NV l.length),(36,.sl false (l.map NV)),(6,NV i),(5,.mpr 1),(4,.ms 0 3 s.2.length 0 s.2.length),(0,.sl false (ins.map insAV))],[.row 3 (s.2.map rsAV) 0,.mp (.int .i64) (entX s.2)]⟩:St))
      (fun s=>XOk ins s.2/\s.1<=l.length/\s.2[i]?=some q/\(l.drop s.1).foldl (addL ins i q) s.2=l.foldl (addL ins i q) xs) (fun s=>l.length-s.1) (0,xs) ?_ ⟨hx,zero_le _,hq,rfl⟩ _ ?_
     ·rintro⟨j,ys⟩ ⟨hy,hj,hyq,hfo⟩;simp only at hy hj hyq hfo |-;have hyl:=hy.len;have hyi:=(List.getElem?_eq_some_iff.1 hyq).1;by_cases hjl:j<l.length
      ·obtain⟨n,hn⟩:∃ n,l[j]?=some n:=⟨_,getElem?_eq_getElem hjl⟩;have hn':(l.map NV)[j]?=some (NV n):=by simp[hn]
       have hnr:n∈(exS ins q.st).rd:=hperm.mem_iff.1 (mem_of_getElem? hn);obtain⟨x,hx1,hop,hpos⟩:=Eg h hnr;have hx1':(ins.map insAV)[n]?=some (insAV x):=by simp[hx1]
       have hnl:=(List.getElem?_eq_some_iff.1 hx1).1;obtain⟨p,m,hp⟩:∃ p m,x.set=p::m:=by cases hq:x.set with
        | nil=>rw[hq]at hpos;cases hpos
        | cons p m=>exact⟨p,m,rfl⟩
       have hk:keyI ins n=p.1:=by simp[keyI,hx1,hp]
       have hltj:((j:Int)<((l.length:Nat):Int))=True:=eq_true (by omega);have hwn:IntKind.i64.wrap ((n:Int)+1)=((n+1:Nat):Int):=by rw[i64_in]<;>omega
       have hwj:IntKind.i64.wrap ((j:Int)+1)=((j+1:Nat):Int):=by rw[i64_in]<;>omega
       have hfi:=Kw (n+1) ys;rw[List.drop_eq_getElem_cons hjl,show l[j]=n from(List.getElem?_eq_some_iff.1 hn).2,List.foldl_cons]at hfo;have hyn:=hy.addL h (i:=i) hnr hyq;by_cases hbm:n+1∈ys.map (·.st)
       ·rw[if_pos hbm]at hfi;have e:addL ins i q ys n=ys:=by unfold addL;rw[if_pos hbm]
        rw[e]at hfo;simp +contextual (disch:=omega) only[Tryz.f36,dd36,go_sem,simprocAttr,evAppend,mu36,↓AD,↓AC,↓AB,↓AA,hltj,hn',hwn,hwj,hfi,Ab];exact⟨(j+1,ys),⟨hy,hjl,hyq,hfo⟩,by simp only;omega,Ac rfl rfl (hk7 (j+1) i ys.length l.length) (EC ys) rfl⟩
       ·rw[if_neg hbm]at hfi;have e:addL ins i q ys n=ys++[⟨n+1,i,p.1,q.tx++[p.1]⟩]:=by unfold addL;rw[if_neg hbm,hk]
        rw[e]at hfo hyn;have hup:=MN (n+1) ys hbm;have ap:=fun(t:Bool) (y:MB)=>TP (H:=[MB.row 3 (ys.map rsAV) 0,y]) (i:=0) (n:=ys.length) (rs:=ys) (a:=((n+1:Nat):Int)) (b:=(i:Int)) (c:=p.1) (t:=t) rfl rfl (by omega);simp only[List.set]at ap;simp +contextual (disch:=omega) only[Tryz.f36,dd36,go_sem,simprocAttr,mu36,↓AD,↓AC,↓AB,↓AA,hltj,hn',hwn,hwj,hfi,hup,hx1',hp,ap,Ab];have hun:=EC (ys++[⟨n+1,i,p.1,q.tx++[p.1]⟩]);simp only[entX,map_append,map_cons,map_nil]at hun;refine⟨(j+1,ys++[⟨n+1,i,p.1,q.tx++[p.1]⟩]),⟨hyn,hjl,by rw[List.getElem?_append_left hyi];exact hyq,hfo⟩,by simp only;omega,?_⟩;simp only[entX,map_append,map_cons,map_nil,length_append,length_cons,length_nil,zero_add];exact Ac rfl rfl (hk7 (j+1) i (ys.length+1) l.length) hun rfl
      ·have hltj:((j:Int)<((l.length:Nat):Int))=False:=eq_false (by omega);rw[List.drop_of_length_le (by omega),List.foldl_nil]at hfo;simp +contextual (disch:=omega) only[Tryz.f36,dd36,go_sem,simprocAttr,evAppend,mu36,↓AD,↓AC,↓AB,↓AA,hltj,hwi];refine⟨(i+1,ys),⟨hy,Nat.succ_le_of_lt hyi,fun syms hs=>?_⟩,by simp only;omega,Ac rfl rfl (hk4 (i+1) ys.length) (EC ys) rfl⟩;simp only;rw[show ins.length+1-(i+1)=f by omega,hfo,<- J8 h i q hnf syms l xs hs.srt hsrt (hperm.nodup_iff.2 (OJ h hqs)) (fun n hn=>?_) (fun n hn hnl=>absurd (hperm.mem_iff.2 hn) hnl)]
       ·exact hr syms hs
       ·have hnr:=hperm.mem_iff.1 hn;obtain⟨x,hx1,hop,hpos⟩:=Eg h hnr;exact⟨hnr,hs.has n x (List.getElem?_eq_some_iff.1 hx1).1 hx1 hop hpos⟩
     ·exact Ac rfl rfl (hk7 0 i xs.length l.length) (EC xs) rfl
  ·have hno:xs[i]?=none:=getElem?_eq_none (by omega);simp only[srch,hno]at hr;have hlt:((i:Int)<((xs.length:Nat):Int))=False:=eq_false (by omega);simp +contextual (disch:=omega) only[Tryz.f36,dd36,go_sem,simprocAttr,evAppend,mu36,↓AD,↓AC,↓AB,↓AA,hlt];refine⟨_,⟨_,_,⟨hx,fun syms hs=>(hr syms hs).symm⟩,rfl⟩,?_⟩;have:=Qr (b:=false) (H:=[.row 3 (xs.map rsAV) 0,.mp (.int .i64) (entX xs)]) (id:=0) (xs:=xs) (n:=xs.length) (len:=xs.length) rfl rfl (le_refl _)
   rwa [List.take_length]at this
 ·exact Ac rfl rfl (hk4 0 1) (EC xs0) rfl
end
theorem Pi {l:List (Int×Int)} (h:refSpans l=0):SpOk l/\l.length<=64:=by
 unfold refSpans at h;split at h
 ·omega
 ·rename_i hb;split at h
  ·omega
  ·have hb':∀ k,k<l.length->badAt l k=false:=fun k hk=>by
    refine Bool.eq_false_iff.2 fun hc=>hb (List.any_eq_true.2 ⟨k,List.mem_range.2 hk,hc⟩)
   refine⟨⟨fun p hp=>?_,?_⟩,by omega⟩
   ·obtain⟨k,hk⟩:=List.mem_iff_getElem?.1 hp;have:=hb' k (List.getElem?_eq_some_iff.1 hk).1;simp[badAt,hk]at this;omega
   ·have hadj:∀ k p q,l[k]?=some p->l[k+1]?=some q->p.2<q.1:=fun k p q hp hq=>by
     have:=hb' (k+1) (List.getElem?_eq_some_iff.1 hq).1;simp[badAt,hp,hq]at this;omega
    have hle:∀(k:Nat) p,l[k]?=some p->p.1<=p.2:=fun k p hp=>by
     have:=hb' k (List.getElem?_eq_some_iff.1 hp).1;simp[badAt,hp]at this;omega
    have hall:∀(d k:Nat) p q,l[k]?=some p->l[k+d+1]?=some q->p.2<q.1:=by
     intro d
     induction d with
     | zero=>exact fun k p q hp hq=>hadj k p q hp hq
     | succ d ih=>
       intro k p q hp hq;obtain⟨r,hr⟩:∃ r,l[k+d+1]?=some r:=⟨_,getElem?_eq_getElem (by have:=(List.getElem?_eq_some_iff.1 hq).1;omega)⟩;have h1:=ih k p r hp hr;have h2:=hadj (k+d+1) r q hr hq;have h3:=hle _ r hr;omega
    refine List.pairwise_iff_getElem.2 fun i j hi hj hij=>?_;obtain⟨d,rfl⟩:∃ d,j=i+d+1:=⟨j-i-1,by omega⟩;exact hall d i _ _ (getElem?_eq_getElem hi) (getElem?_eq_getElem hj)
theorem Jd {g:Prg} (h:acceptG g=0):OkP g.ins:=by
 unfold acceptG at h;split at h
 ·rename_i h1;exact absurd h h1
 ·rename_i h1;have h1':validG g=0:=Classical.byContradiction fun e=>h1 e;split at h
  ·omega
  ·rename_i h5;unfold validG at h1';split at h1'
   ·omega
   ·rename_i hl;split at h1'
    ·omega
    ·rename_i hc;split at h1'
     ·rename_i hv;simp only[and_eq_true,all_eq_true]at hv;obtain⟨hv,hlast⟩:=hv;have hop5:∀ i∈g.ins,i.op≠5:=fun i hi e=>h5 (List.any_eq_true.2 ⟨i,hi,by simp[e]⟩);have hnl:∀ n i,g.ins[n]?=some i->i.op=1∨i.op=4->n+1<g.ins.length:=fun n i hi ho=>by
       have hn:=(List.getElem?_eq_some_iff.1 hi).1;refine Classical.byContradiction fun hne=>?_;have e:g.ins.length-1=n:=by omega
       unfold lastGood at hlast;rw[e,hi]at hlast;simp only[or_eq_true,beq_iff_eq]at hlast;omega
      have hops:∀ i∈g.ins,i.op=0∨i.op=1∨i.op=2∨i.op=3∨i.op=4:=fun i hi=>by
       have:=hv i hi;have h6:=hop5 i hi;simp only[okIns,and_eq_true,or_eq_true,beq_iff_eq,decide_eq_true_eq]at this;omega
      refine⟨by omega,by omega,hops,?_,fun n i hi ho=>hnl n i hi (.inl ho),?_⟩
      ·intro n i hi;have:=hv i (mem_of_getElem? hi);simp only[okIns,and_eq_true,or_eq_true,beq_iff_eq,decide_eq_true_eq]at this;refine⟨fun ho=>?_,fun ho=>?_,fun ho=>?_⟩
       ·omega
       ·omega
       ·have:=hnl n i hi (.inr ho);omega
      ·intro i hi;have:=hv i hi;simp only[okIns,and_eq_true,or_eq_true,beq_iff_eq,decide_eq_true_eq]at this;by_cases ho:i.op=1
       ·exact Pi (by omega)
       ·have:i.set=[]:=List.length_eq_zero_iff.1 (by omega);rw[this];exact⟨⟨fun p hp=>by simp at hp,List.Pairwise.nil⟩,by simp⟩
     ·omega
end Go.Ev
namespace Go.Ev
attribute [local go_sem] BM evBin evBuild evMakeSlice AV.cells AV.ok splice
section
attribute [local go_sem] Ae Al bndO bnd evEq eqCells not_false_eq_true not_true_eq_false AX size_empty length_append map_append tySzE head?_drop mul_one AQ AU AO AR AS AY
structure RevTo (l m:List Int) (i:Nat):Prop where
 len:m.length=l.length
 low:∀ k,k<i->m[k]?=l[l.length-1-k]?
 mid:∀ k,i<=k->k+i<l.length->m[k]?=l[k]?
 high:∀ k,k<l.length->l.length<=k+i->m[k]?=l[l.length-1-k]?
theorem RevTo.step {l m:List Int}{i:Nat} (h:RevTo l m i) (hi:i+i+1<l.length) {x y:Int} (hx:l[i]?=some x) (hy:l[l.length-1-i]?=some y):RevTo l ((m.set i y).set (l.length-1-i) x) (i+1):=by
 have hl:=h.len;refine⟨by simp[hl],fun k hk=>?_,fun k hk hk2=>?_,fun k hk hk2=>?_⟩
 ·rw[getElem?_set_ne (by omega)];rcases Nat.lt_succ_iff_lt_or_eq.1 hk with h1|rfl
  ·rw[getElem?_set_ne (by omega)];exact h.low k h1
  ·rw[List.getElem?_set_self (by omega),hy]
 ·rw[getElem?_set_ne (by omega),getElem?_set_ne (by omega)];exact h.mid k (by omega) (by omega)
 ·by_cases e:k=l.length-1-i
  ·subst e;rw[List.getElem?_set_self (by simp;omega),show l.length-1-(l.length-1-i)=i by omega,hx]
  ·rw[getElem?_set_ne (by omega),getElem?_set_ne (by omega)];exact h.high k hk (by omega)
theorem RevTo.done {l m:List Int}{i:Nat} (h:RevTo l m i) (hi:l.length<=i+i+1):m=l.reverse:=by
 have hl:=h.len;refine List.ext_getElem? fun k=>?_;by_cases hk:k<l.length
 ·rw[List.getElem?_reverse hk];by_cases h1:k<i
  ·exact h.low k h1
  ·by_cases h2:l.length<=k+i
   ·exact h.high k hk h2
   ·have:l.length-1-k=k:=by omega
    rw[this];exact h.mid k (by omega) (by omega)
 ·rw[getElem?_eq_none (by omega),getElem?_eq_none (by simp;omega)]
theorem f39 (g:Prg) (l:List Int) (hl:l.length<=1000000):call Pg pol1 39 [.ms 1 1 l.length 0 l.length] [.row 3 [prgAV g] 0,.row 1 (l.map I) 0]=some (.tup [],[.row 3 [prgAV g] 0,.row 1 (l.reverse.map I) 0]):=by
 refine AP (pol:=pol1) Tryz.func39 rfl rfl rfl rfl (AL _ _ 0 rfl) ?_;have hw0:IntKind.i64.wrap (((l.length:Nat):Int)-1)=((l.length:Nat):Int)-1:=by rw[i64_in]<;>omega
 simp +contextual (disch:=omega) only[Tryz.f39,dd39,go_sem,simprocAttr,evAppend,mu39,↓AD,↓AC,↓AB,↓AA,hw0];refine Cw (σ:=Nat×List Int) (M:=(mskOf (pol1.mask 39) (pol1.gc 39) (pol1.acts 39) 0 1)) (by rfl) (fun s=>(⟨28,[(3,I (((l.length:Nat):Int)-1-s.1)),(2,NV s.1),(0,.ms 1 1 l.length 0 l.length)],[.row 3 [prgAV g] 0,.row 1 (s.2.map I) 0]⟩:St)) (fun s=>s.1<=l.length/\RevTo l s.2 s.1) (fun s=>l.length-s.1) (0,l) ?_ ⟨zero_le _,rfl,fun k hk=>by omega,fun k _ _=>rfl,fun k h1 h2=>by omega⟩ _ ?_
 ·rintro⟨i,m⟩ ⟨hi,hR⟩;simp only at hi hR |-;have hml:=hR.len;by_cases hlt:i+i+1<l.length
  ·obtain⟨x,hx⟩:∃ x,l[i]?=some x:=⟨_,getElem?_eq_getElem (by omega)⟩;obtain⟨y,hy⟩:∃ y,l[l.length-1-i]?=some y:=⟨_,getElem?_eq_getElem (by omega)⟩;have hx':(m.map I)[i]?=some (I x):=by simp[hR.mid i (le_refl _) (by omega),hx]
   have hy':(m.map I)[l.length-1-i]?=some (I y):=by simp[hR.mid (l.length-1-i) (by omega) (by omega),hy]
   have hje:((l.length:Nat):Int)-1-(i:Int)=((l.length-1-i:Nat):Int):=by omega
   have hc:((i:Int)<((l.length-1-i:Nat):Int))=True:=eq_true (by omega);have hb1:((i:Int)<((l.length:Nat):Int))=True:=eq_true (by omega);have hb2:(((l.length-1-i:Nat):Int)<((l.length:Nat):Int))=True:=eq_true (by omega);have hwi:IntKind.i64.wrap ((i:Int)+1)=((i+1:Nat):Int):=by rw[i64_in]<;>omega
   have hwj:IntKind.i64.wrap (((l.length-1-i:Nat):Int)-1)=((l.length:Nat):Int)-1-((i+1:Nat):Int):=by rw[i64_in]<;>omega
   have hgs:((m.map I).set i (I y))[l.length-1-i]?=some (I y):=by rw[getElem?_set_ne (by omega)];exact hy'
   have hsl:((m.map I).set i (I y)).length=l.length:=by simp[hml]
   rw[hje];simp +contextual (disch:=omega) only[Tryz.f39,dd39,go_sem,simprocAttr,evAppend,mu39,↓AD,↓AC,↓AB,↓AA,hx',hy',hc,hb1,hb2,hwi,hwj,Ab,hml,hgs,hsl];repeat' (first|intro _|apply And.intro|(unfold dOk;kernel_rfl)|(show (_||_)=true;kernel_rfl)|(show (_&&_)=true;kernel_rfl))
   refine⟨(i+1,(m.set i y).set (l.length-1-i) x),⟨by simp only;omega,hR.step hlt hx hy⟩,by simp only;omega,?_⟩;simp only[List.map_set];rw[show ((l.length:Nat):Int)-1-((i+1:Nat):Int)=((l.length-1-i-1:Nat):Int) by omega];rfl
  ·have hc:((i:Int)<((l.length:Nat):Int)-1-(i:Int))=False:=eq_false (by omega);simp +contextual (disch:=omega) only[Tryz.f39,dd39,go_sem,simprocAttr,evAppend,mu39,↓AD,↓AC,↓AB,↓AA,hc];rw[hR.done (by omega)];have h1:=AE 2 _ (AF l.reverse);refine Bg rfl rfl rfl ?_ rfl;simp only[keptOk,MB.beq_refl,MB.under,h1,Bool.or_true,Bool.true_or,Bool.and_true,Bool.true_and,length_cons,length_nil]
 ·rw[show (((l.length:Nat):Int)-1-(((0,l):Nat×List Int).1:Int))=((l.length:Nat):Int)-1 by simp];rfl
theorem KN {ins:List Ins}{syms:List Int}:∀(f i:Nat) (ys xs:List RS),srch ins syms f i ys=(xs,true)->0<xs.length
 | 0,i,ys,xs,h=>by simp[srch]at h
 | f+1,i,ys,xs,h=>by
   unfold srch at h;split at h
   ·simp at h
   ·rename_i r hr;split at h
    ·simp only[Prod.mk.injEq,and_true]at h;rw[<- h,List.length_take];have:=(List.getElem?_eq_some_iff.1 hr).1;omega
    ·exact KN f _ _ _ h
def lastTx (xs:List RS):List Int:=match xs[xs.length-1]? with
 | some r=>r.tx
 | none=>[]
theorem g14 (g:Prg) (hb:PrgB g) (ha:acceptG g=0):∃ r:AV,(∃ xs fk,Explored g.ins xs fk/\r=.tup [.sl false ((if fk then lastTx xs else []).map I),.bool fk,I 0])/\∀ H,call Pg pol1 14 [prgAV g] H=some (r,H):=by
 have h35:=f35 g hb;rw[ha]at h35;have h:=Jd ha;obtain⟨_,⟨syms,_,hsy⟩,_⟩:=g40 h;obtain⟨r36,⟨xs,fk,hex,rfl⟩,h36⟩:=f36 h;have hxl:=hex.1.len;have hl:=h.len;refine CL Tryz.func14 rfl rfl rfl rfl rfl rfl (fun _=>rfl) (by simp[AV.plain,AV.plainL,AF,AG,AH,AI]) ?_ ?_
 ·rintro r ⟨xs,fk,_,rfl⟩;simp[AV.plain,AV.plainL,AF]
 cases fk with
 | false=>
   simp +contextual (disch:=omega) only[Tryz.f14,dd14,go_sem,simprocAttr,evAppend,mu14,↓AD,↓AC,↓AB,↓AA,h35,h36];exact⟨_,⟨xs,false,hex,rfl⟩,_,rfl⟩
 | true=>
   have hpos:=KN _ _ _ _ (hex.2 syms hsy);have hw0:IntKind.i64.wrap (((xs.length:Nat):Int)-1)=((xs.length-1:Nat):Int):=by rw[i64_in]<;>omega
   simp +contextual (disch:=omega) only[Tryz.f14,dd14,go_sem,simprocAttr,evAppend,mu14,↓AD,↓AC,↓AB,↓AA,h35,h36,hw0];obtain⟨q,hq⟩:∃ q,xs[xs.length-1]?=some q:=⟨_,getElem?_eq_getElem (by omega)⟩;have hlt:lastTx xs=q.tx:=by simp[lastTx,hq]
   have hqt:=hex.1.txl _ q hq;have hu:∀ acc:List Int,[MB.row 3 [prgAV g] 0,.row 1 (acc.map I) 0].all (MB.under 2)=true:=fun acc=>by
    have h1:=AE 2 _ (AH g.ins);have h2:=AE 2 _ (AF acc);simp[MB.under,AV.underL,AV.under,h1,h2]
   have hk9:∀(j:Int) (n:Nat),AV.underL 2 [.int .i64 j,.ms 1 1 n 0 n,.sl false (xs.map rsAV)]=true:=fun j n=>by
    have:=AE 2 _ (D3 xs);simp[AV.underL,AV.under,this]
   refine Cw (σ:=Nat×List Int) (M:=(mskOf (pol1.mask 14) (pol1.gc 14) (pol1.acts 14) 0 9)) (by rfl) (fun s=>(⟨48,[(9,NV s.1),(8,.ms 1 1 s.2.length 0 s.2.length),(6,.sl false (xs.map rsAV))],[.row 3 [prgAV g] 0,.row 1 (s.2.map I) 0]⟩:St)) (fun s=>∃ r,xs[s.1]?=some r/\s.2++r.tx.reverse=q.tx.reverse) (fun s=>s.1) (xs.length-1,[]) ?_ ⟨q,hq,rfl⟩ _ ?_
   ·rintro⟨j,acc⟩ ⟨r,hr,hacc⟩;simp only at hr hacc |-;have hr':(xs.map rsAV)[j]?=some (rsAV r):=by simp[hr]
    have hjl:=(List.getElem?_eq_some_iff.1 hr).1;have hltj:((j:Int)<((xs.length:Nat):Int))=True:=eq_true (by omega);have hal:acc.length<=100000:=by
     have:=congrArg List.length hacc;simp at this;omega
    rcases hex.1.bk j r hr with ⟨h1,h2⟩|⟨k,r2,h1,h2,h3,h4⟩
    ·rw[h2,List.reverse_nil,List.append_nil]at hacc;have h39:=f39 g acc (by omega);simp +contextual (disch:=omega) only[Tryz.f14,dd14,go_sem,simprocAttr,evAppend,mu14,↓AD,↓AC,↓AB,↓AA,hr',hltj,Ab,h1,h39];refine⟨_,⟨xs,true,hex,rfl⟩,?_⟩;rw[if_pos rfl,hlt];have he:acc.reverse=q.tx:=by rw[hacc,List.reverse_reverse]
     have h2:fzA (fzJ 6) (.ms 1 1 acc.length 0 acc.length) [.row 3 [prgAV g] 0,.row 1 (acc.reverse.map I) 0]=some (.sl false (acc.reverse.map I),_):=Cl (n:=5) rfl (by simp) (AF _);refine⟨mark [.row 3 [prgAV g] 0,.row 1 (acc.reverse.map I) 0] 1 acc.length,?_⟩;rw[<- he];simp only[fz,EU,fzL,h2];rfl
    ·have ap:=fun(t:Bool)=>appI (H:=[MB.row 3 [prgAV g] 0,.row 1 (acc.map I) 0]) (i:=1) (n:=acc.length) (rs:=acc) (l:=[r.sy]) (t:=t) rfl rfl (by simp;omega);simp only[List.set,map_append,map_cons,map_nil,length_cons,length_nil,zero_add]at ap;have hge:((0:Int)<=((k:Nat):Int))=True:=eq_true (by omega);simp +contextual (disch:=omega) only[Tryz.f14,dd14,go_sem,simprocAttr,mu14,↓AD,↓AC,↓AB,↓AA,hr',hltj,Ab,h2,hge,ap];have hun:=hu (acc++[r.sy]);simp only[map_append,map_cons,map_nil]at hun;refine⟨(k,acc++[r.sy]),⟨r2,h3,?_⟩,h1,?_⟩
     ·simp only;rw[h4]at hacc;rw[<- hacc];simp
     ·simp only[map_append,map_cons,map_nil,length_append,length_cons,length_nil,zero_add];exact Ac rfl rfl (hk9 _ _) hun rfl
   ·exact Ac rfl rfl (hk9 _ 0) (hu []) rfl
end
section
attribute [local go_sem] evAppend Ae Al bndO bnd evEq eqCells not_false_eq_true not_true_eq_false AX size_empty length_append map_append tySzE head?_drop mul_one AQ AU AO AR AS AY
theorem f38 (l:List (Int×Int)) (hl:l.length<=1000000) (x y:MB):call Pg pol1 38 [.sl false (l.map spanAV)] [x,y]=some (.sl false (l.map spanAV),[x,y]):=by
 rw[BO];unfold evStep;rw[if_neg (show ¬ pol1.pure 38=true by decide),if_neg (by decide)];show cloneExt 2 16 [.sl false (l.map spanAV)] [x,y]=_;have h1:((l.map spanAV).all fun y=>decide (y.cells.length=2)&&y.cells.all AV.ok)=true:=by
  rw[all_eq_true];intro y hy;obtain⟨p,_,rfl⟩:=mem_map.1 hy;rfl
 have h2:roomFor (l.map spanAV).length 16=true:=AY (by simp;omega) (by omega);unfold cloneExt;simp only[elemsOf];rw[if_pos ⟨h1,h2,AG l⟩]
theorem f37 (l:List Ins) (hl:0<l.length/\l.length<=1000000) (K:List MB):call Pg pol1 37 [.sl false (l.map insAV)] K=some (.ms K.length 5 l.length 0 l.length,K++[.row 5 (l.map insAV) 0]):=by
 rw[BO];unfold evStep;rw[if_neg (show ¬ pol1.pure 37=true by decide),if_neg (by decide)];show cloneExtO 5 56 [.sl false (l.map insAV)] K=_;have h1:((l.map insAV).all fun y=>decide (y.cells.length=5)&&y.cells.all AV.ok)=true:=by
  rw[all_eq_true];intro y hy;obtain⟨p,_,rfl⟩:=mem_map.1 hy;rfl
 have h2:roomFor (l.map insAV).length 56=true:=AY (by simp;omega) (by omega);unfold cloneExtO;simp only[elemsOf];rw[if_pos ⟨h1,h2⟩];cases l with
 | nil=>simp at hl
 | cons y ys=>simp
theorem QI (g:Prg) (hb:PrgB g) (ha:acceptG g≠0) (H:List MB):call Pg pol1 12 [prgAV g] H=some (.tup [.nilp,I (acceptG g)],H):=by
 have h35:=f35 g hb;refine AT Tryz.func12 rfl rfl rfl rfl rfl rfl (fun _=>rfl) (by simp[AV.plain,AV.plainL,AF,AG,AH,AI]) (by simp[AV.plain,AV.plainL,AF,AG,AH,AI]) ?_ H;simp +contextual (disch:=omega) only[Tryz.f12,dd12,go_sem,simprocAttr,mu12,↓AD,↓AC,↓AB,↓AA,h35,ha];exact⟨_,rfl⟩
theorem g12 (g:Prg) (hb:PrgB g) (ha:acceptG g=0):∃ r:AV,(∃ xs fk,Explored g.ins xs fk/\r=if fk=true then .tup [.nilp,I 10] else .tup [.pt [.sl false (g.ins.map insAV),I g.caps,NV xs.length],I 0])/\∀ H,call Pg pol1 12 [prgAV g] H=some (r,H):=by
 have h35:=f35 g hb;rw[ha]at h35;have h:=Jd ha;have hl:=h.len;obtain⟨r36,⟨xs,fk,hex,rfl⟩,h36⟩:=f36 h;have h37:=f37 g.ins ⟨h.pos,by omega⟩;refine CL Tryz.func12 rfl rfl rfl rfl rfl rfl (fun _=>rfl) (by simp[AV.plain,AV.plainL,AF,AG,AH,AI]) ?_ ?_
 ·rintro r ⟨xs,fk,_,rfl⟩;split
  ·rfl
  ·simp[AV.plain,AV.plainL,AH]
 cases fk with
 | true=>
   simp +contextual (disch:=omega) only[Tryz.f12,dd12,go_sem,simprocAttr,mu12,↓AD,↓AC,↓AB,↓AA,h35,h36];exact⟨_,⟨xs,true,hex,rfl⟩,_,rfl⟩
 | false=>
   simp +contextual (disch:=omega) only[Tryz.f12,dd12,go_sem,simprocAttr,mu12,↓AD,↓AC,↓AB,↓AA,h35,h36,h37];refine Af (M:=(mskOf (pol1.mask 12) (pol1.gc 12) (pol1.acts 12) 0 9)) (by rfl) g.ins.length (fun i=>(⟨47,[(26,NV i),(25,NV g.ins.length),(7,.ms 1 5 g.ins.length 0 g.ins.length),(5,.sl false (xs.map rsAV)),(1,.rf 0 1 0 0)],[.row 3 [prgAV g] 0,.row 5 (g.ins.map insAV) 0]⟩:St)) (fun _=>True) ?_ ?_ trivial _ ?_
   ·intro i hi _;obtain⟨p,hp⟩:∃ p,g.ins[i]?=some p:=⟨_,getElem?_eq_getElem hi⟩;have hp':(g.ins.map insAV)[i]?=some (insAV p):=by simp[hp]
    have hset:(g.ins.map insAV).set i (insAV p)=g.ins.map insAV:=by
     apply List.ext_getElem?;intro q;by_cases e:i=q
     ·subst e;rw[List.getElem?_set_self (by simpa using hi),hp']
     ·rw[getElem?_set_ne e]
    have hc29:=fun x y:MB=>f38 p.set (hb.2 p (mem_of_getElem? hp)) x y;have hlt:((i:Int)<((g.ins.length:Nat):Int))=True:=eq_true (by omega);have hwi:IntKind.i64.wrap ((i:Int)+1)=((i+1:Nat):Int):=by rw[i64_in]<;>omega
    simp +contextual (disch:=omega) only[Tryz.f12,dd12,go_sem,simprocAttr,mu12,↓AD,↓AC,↓AB,↓AA,hp',hc29,hset,hlt,hwi,Ab];rfl
   ·intro _;simp +contextual (disch:=omega) only[Tryz.f12,dd12,go_sem,simprocAttr,mu12,↓AD,↓AC,↓AB,↓AA];have h1:fzA (fzJ 5) (.ms 1 5 g.ins.length 0 g.ins.length) [.row 3 [prgAV g] 0,.row 5 (g.ins.map insAV) 0,.row 3 [.agg [.ms 1 5 g.ins.length 0 g.ins.length,I g.caps,NV xs.length]] 1]=some (.sl false (g.ins.map insAV),_):=Cl (n:=4) rfl (by simp) (AH _);have h2:fzA (fzJ 6) (.rf 2 1 0 0) [.row 3 [prgAV g] 0,.row 5 (g.ins.map insAV) 0,.row 3 [.agg [.ms 1 5 g.ins.length 0 g.ins.length,I g.caps,NV xs.length]] 0]=some (.pt [.sl false (g.ins.map insAV),I g.caps,NV xs.length],mark [.row 3 [prgAV g] 0,.row 5 (g.ins.map insAV) 0,.row 3 [.agg [.ms 1 5 g.ins.length 0 g.ins.length,I g.caps,NV xs.length]] 1] 1 g.ins.length):=by
     show (match fzL (fzJ 5) [.ms 1 5 g.ins.length 0 g.ins.length,I g.caps,NV xs.length] [.row 3 [prgAV g] 0,.row 5 (g.ins.map insAV) 0,.row 3 [.agg [.ms 1 5 g.ins.length 0 g.ins.length,I g.caps,NV xs.length]] 1] with
      | some (ys,H')=>some (AV.pt ys,H')
      | none=>none)=_
     simp only[fzL,h1,EW]
    refine⟨_,⟨xs,false,hex,rfl⟩,mark [.row 3 [prgAV g] 0,.row 5 (g.ins.map insAV) 0,.row 3 [.agg [.ms 1 5 g.ins.length 0 g.ins.length,I g.caps,NV xs.length]] 1] 1 g.ins.length,?_⟩;simp only[fz,EU,fzL,h2,EW];rfl
   ·rfl
end
section
attribute [local go_sem] evAppend Ae Al bndO bnd evEq eqCells not_false_eq_true not_true_eq_false AX size_empty length_append map_append tySzE head?_drop mul_one AQ AU AO AR AS AY
def disAll:List (Int×Int)->Bool
 | []=>true
 | p::l=>l.all (fun q=>decide (p.2<q.1)||decide (q.2<p.1))&&disAll l
theorem Hh:∀ l:List (Int×Int),disAll l=true↔l.Pairwise DisS
 | []=>by simp[disAll]
 | p::l=>by
   simp only[disAll,and_eq_true,all_eq_true,or_eq_true,decide_eq_true_eq,List.pairwise_cons,Hh l];rfl
def forkB (ins:List Ins) (st:Nat):Bool:=(fromS ins st).tw||(decide (1<(exS ins st).dn)||!disAll (exS ins st).sp)
theorem I8 (ins:List Ins) (st:Nat):forkB ins st=true↔ForkS ins st:=by
 unfold forkB ForkS;rw[<- Hh];simp
def srchB (ins:List Ins) (syms:List Int):Nat->Nat->List RS->List RS×Bool
 | 0,_,xs=>(xs,false)
 | f+1,i,xs=>match xs[i]? with
   | none=>(xs,false)
   | some r=>if forkB ins r.st=true then(xs.take (i+1),true) else srchB ins syms f (i+1) (syms.foldl (addS ins i r) xs)
theorem FH (ins:List Ins) (syms:List Int):∀(f i:Nat) (xs:List RS),srchB ins syms f i xs=srch ins syms f i xs
 | 0,i,xs=>rfl
 | f+1,i,xs=>by
   unfold srchB srch;cases xs[i]? with
   | none=>rfl
   | some r=>
     simp only;by_cases h:forkB ins r.st=true
     ·rw[if_pos h,if_pos ((I8 _ _).1 h)]
     ·rw[if_neg h,if_neg fun hf=>h ((I8 _ _).2 hf)];exact FH ins syms f (i+1) _
def thenP (c:Int):Prg:=⟨[⟨2,1,3,0,[]⟩,⟨1,0,0,0,[(97,97)]⟩,⟨3,0,0,0,[]⟩,⟨1,0,0,0,[(c,c)]⟩,⟨0,0,0,0,[]⟩],0,false⟩
def bothP:Prg:=⟨[⟨1,0,0,0,[(98,98)]⟩,⟨2,2,4,0,[]⟩,⟨1,0,0,0,[(97,97)]⟩,⟨3,6,0,0,[]⟩,⟨1,0,0,0,[(97,97)]⟩,⟨1,0,0,0,[(98,98)]⟩,⟨0,0,0,0,[]⟩],0,false⟩
noncomputable def polV:Pol:={ pol0 with pure:=fun f=>!(12::14::notPure).contains f,ext:=fun f=>if f=54 then none else if f=12 then some (call Pg pol1 12) else if f=14 then some (call Pg pol1 14) else pol0.ext f,muts:=fun f=>if f=42 then [1000012,1000016] else if f=19 then [1000090,1000095] else if f=44 then [3000000] else pol0.muts f }
theorem srB:srch (thenP 98).ins [97,98] 6 0 xs0=([⟨0,-1,0,[]⟩,⟨2,0,97,[97]⟩,⟨4,0,98,[98]⟩],false):=by
 rw[<- FH];rfl
theorem srA:∃ xs,srch (thenP 97).ins [97] 6 0 xs0=(xs,true)/\lastTx xs=[]:=by
 refine⟨[⟨0,-1,0,[]⟩],?_,rfl⟩;rw[<- FH];rfl
theorem srP:∃ xs,srch bothP.ins [97,98] 8 0 xs0=(xs,true)/\lastTx xs=[98]:=by
 refine⟨[⟨0,-1,0,[]⟩,⟨1,0,98,[98]⟩],?_,rfl⟩;rw[<- FH];rfl
theorem HK {ins:List Ins}{l:List Int} (h1:l.Pairwise (·< ·)) (h2:l.length<=ins.length) (h3:(List.range ins.length).all (fun n=>match ins[n]? with
  | some x=>!(decide (x.op=1)&&decide (0<x.set.length))||l.contains (keyI ins n)
  | none=>true)=true):LeastTo ins ins.length l:=by
 refine⟨h1,fun n x hn hx ho hs=>?_,h2⟩;have:=all_eq_true.1 h3 n (List.mem_range.2 hn);simp only[hx,ho,hs,decide_true,Bool.and_self,Bool.not_true,Bool.false_or]at this
 simpa using this
theorem lsB:LeastTo (thenP 98).ins (thenP 98).ins.length [97,98]:=HK (by simp) (by decide) (by decide)
theorem lsA:LeastTo (thenP 97).ins (thenP 97).ins.length [97]:=HK (by simp) (by decide) (by decide)
theorem lsP:LeastTo bothP.ins bothP.ins.length [97,98]:=HK (by simp) (by decide) (by decide)
theorem DI {g:Prg} (h:g.ins.all (fun i=>decide (i.set.length<=1))=true) (h2:g.ins.length<=20):PrgB g:=⟨by omega,fun i hi=>by
 have:=all_eq_true.1 h i hi;simp at this;omega⟩
theorem c12b:∀ H,call Pg pol1 12 [prgAV (thenP 98)] H=some (.tup [.pt [.sl false ((thenP 98).ins.map insAV),I 0,I 3],I 0],H):=by
 obtain⟨r,⟨xs,fk,hex,rfl⟩,h⟩:=g12 (thenP 98) (DI (by decide) (by decide)) (by decide);have:=hex.2 _ lsB;rw[show (thenP 98).ins.length+1=6 from rfl,srB]at this;simp only[Prod.mk.injEq]at this;obtain⟨rfl,rfl⟩:=this;exact h
theorem c12a:∀ H,call Pg pol1 12 [prgAV (thenP 97)] H=some (.tup [.nilp,I 10],H):=by
 obtain⟨r,⟨xs,fk,hex,rfl⟩,h⟩:=g12 (thenP 97) (DI (by decide) (by decide)) (by decide);obtain⟨ys,e1,e2⟩:=srA;have:=hex.2 _ lsA;rw[show (thenP 97).ins.length+1=6 from rfl,e1]at this;simp only[Prod.mk.injEq]at this;obtain⟨rfl,rfl⟩:=this;exact h
theorem c14a:∀ H,call Pg pol1 14 [prgAV (thenP 97)] H=some (.tup [.sl false [],.bool true,I 0],H):=by
 obtain⟨r,⟨xs,fk,hex,rfl⟩,h⟩:=g14 (thenP 97) (DI (by decide) (by decide)) (by decide);obtain⟨ys,e1,e2⟩:=srA;have:=hex.2 _ lsA;rw[show (thenP 97).ins.length+1=6 from rfl,e1]at this;simp only[Prod.mk.injEq]at this;obtain⟨rfl,rfl⟩:=this;rw[e2]at h;exact h
theorem c14p:∀ H,call Pg pol1 14 [prgAV bothP] H=some (.tup [.sl false [I 98],.bool true,I 0],H):=by
 obtain⟨r,⟨xs,fk,hex,rfl⟩,h⟩:=g14 bothP (DI (by decide) (by decide)) (by decide);obtain⟨ys,e1,e2⟩:=srP;have:=hex.2 _ lsP;rw[show bothP.ins.length+1=8 from rfl,e1]at this;simp only[Prod.mk.injEq]at this;obtain⟨rfl,rfl⟩:=this;rw[e2]at h;exact h
end
section
attribute [local go_sem] evAppend Ae Al bndO bnd evEq eqCells not_false_eq_true not_true_eq_false AX size_empty length_append map_append tySzE head?_drop mul_one AQ AU AO AR AS AY
abbrev cB:AV:=.pt [.sl false ((thenP 98).ins.map insAV),I 0,I 3]
abbrev args44 (x:Nat×Nat×List Int):List AV:=[cB,NV x.1,.sl false (x.2.2.map I),NV x.2.1]
def res44 (x:Nat×Nat×List Int):AV:=match runS (thenP 98).ins enC (yiC (thenP 98).ins x.2.2 x.2.1) 20 [(x.1,m0S)] CS0 with
 | some sF=>.tup [I sF.nx,.agg (sF.way.map AV.bool),.bool sF.dn,.agg (sF.la.map AV.bool)]
 | none=>.top
def tab44:List (Nat×Nat×List Int):=[(0,0,[97,97,98,98]),(2,1,[97,97,98,98]),(2,2,[97,97,98,98]),(4,3,[97,97,98,98]),(0,0,[97,97]),(2,1,[97,97]),(2,2,[97,97])]
def ext44 (args:List AV) (H:List MB):Option (AV×List MB):=match tab44.find? (fun x=>AV.beqL args (args44 x)) with
 | some x=>some (res44 x,H)
 | none=>none
theorem RC:LeadsR (thenP 98).ins:=(Jd (g:=thenP 98) (by decide)).leads
theorem Kz {args:List AV}{H H':List MB}{r:AV} (h:ext44 args H=some (r,H')):CallSound Pg 44 args H r H':=by
 unfold ext44 at h;split at h
 ·rename_i x hx;simp only[Option.some.injEq,Prod.mk.injEq]at h;obtain⟨rfl,rfl⟩:=h;obtain rfl:=AV.eq_of_beqL _ _ (by simpa using List.find?_some hx);have hm:=List.mem_of_find?_eq_some hx;have hset:∀ i∈(thenP 98).ins,i.set.length<=1000000:=(DI (g:=thenP 98) (by decide) (by decide)).2;have key:∀ x∈tab44,(∃ sF,runS (thenP 98).ins enC (yiC (thenP 98).ins x.2.2 x.2.1) 20 [(x.1,m0S)] CS0=some sF)/\x.1<5/\x.2.2.length<=10:=by
   intro x hx;simp only[tab44,List.mem_cons,List.not_mem_nil,or_false]at hx;rcases hx with rfl|rfl|rfl|rfl|rfl|rfl|rfl<;>exact⟨⟨_,rfl⟩,by decide,by decide⟩
  obtain⟨⟨sF,hs⟩,h1,h2⟩:=key x hm;have:=f44 (thenP 98).ins 0 3 x.2.2 x.2.1 x.1 (by decide) (by omega) hset RC h1 20 (by omega) sF hs H;have hr:res44 x=.tup [I sF.nx,.agg (sF.way.map AV.bool),.bool sF.dn,.agg (sF.la.map AV.bool)]:=by unfold res44;rw[hs]
  rw[hr];exact ok1.1 _ _ _ _ _ (by decide) this
 ·cases h
noncomputable def polU:Pol:={ polV with pure:=fun f=>!(44::12::14::notPure).contains f,ext:=fun f=>if f=44 then some ext44 else polV.ext f }
theorem u42b (H:List MB):call Pg polU 42 [I 98] H=some (prgAV (thenP 98),H):=Bu (n:=60) 20 42 _ _ _ (by kernel_rfl)
theorem u42a (H:List MB):call Pg polU 42 [I 97] H=some (prgAV (thenP 97),H):=Bu (n:=60) 20 42 _ _ _ (by kernel_rfl)
theorem u21b (H:List MB):call Pg polU 21 [cB,.sl false [I 97,I 97,I 98,I 98],I 0] H=some (.tup [.agg [I 0,I 3,.sl false []],.bool true,I 0],H):=Bu (n:=60) 20 21 _ _ _ (by kernel_rfl)
theorem u21n (H:List MB):call Pg polU 21 [cB,.sl false [I 97,I 97],I 0] H=some (.tup [.agg [I 0,I 0,.sl false []],.bool false,I 0],H):=Bu (n:=60) 20 21 _ _ _ (by kernel_rfl)
theorem u17 (H:List MB):call Pg polU 17 [cB] H=some (I 3,H):=Bu (n:=60) 20 17 _ _ _ (by kernel_rfl)
theorem u18 (H:List MB):call Pg polU 18 [.sl false [I 98],.sl false [I 98]] H=some (.bool true,H):=Bu (n:=60) 20 18 _ _ _ (by kernel_rfl)
end
section
attribute [local go_sem] evAppend Ae Al bndO bnd evEq eqCells not_false_eq_true not_true_eq_false AX size_empty length_append map_append tySzE head?_drop mul_one AQ AU AO AR AS AY
theorem NJ:polU.dead=pol1.dead:=rfl
theorem Lq:polU.bdead=pol1.bdead:=rfl
theorem Lp:polU.racts=pol1.racts:=rfl
theorem NI:polU.muts 19=[1000090,1000095]:=rfl
theorem NK:polU.alts=pol1.alts:=rfl
theorem u12b (H:List MB):call Pg polU 12 [prgAV (thenP 98)] H=some (.tup [cB,I 0],H):=by
 rw[BO];unfold evStep;rw[if_neg (show ¬ polU.pure 12=true by decide),if_neg (by decide)];exact c12b H
theorem u12a (H:List MB):call Pg polU 12 [prgAV (thenP 97)] H=some (.tup [.nilp,I 10],H):=by
 rw[BO];unfold evStep;rw[if_neg (show ¬ polU.pure 12=true by decide),if_neg (by decide)];exact c12a H
theorem u14a (H:List MB):call Pg polU 14 [prgAV (thenP 97)] H=some (.tup [.sl false [],.bool true,I 0],H):=by
 rw[BO];unfold evStep;rw[if_neg (show ¬ polU.pure 14=true by decide),if_neg (by decide)];exact c14a H
theorem u14p (H:List MB):call Pg polU 14 [prgAV bothP] H=some (.tup [.sl false [I 98],.bool true,I 0],H):=by
 rw[BO];unfold evStep;rw[if_neg (show ¬ polU.pure 14=true by decide),if_neg (by decide)];exact c14p H
abbrev reSl (c:Int):List AV:=[I 1,.sl false [spanAV (c,c)],.sl false [],I 0,I 0,I 0,I 0,.bool false]
abbrev reB:List AV:=[I 3,.sl false [],.sl false [.agg (reSl 97),.agg [I 2,.sl false [],.sl false [.agg (reSl 97),.agg (reSl 98)],I 0,I 0,I 0,I 0,.bool false]],I 0,I 0,I 0,I 0,.bool false]
abbrev reP:List AV:=[I 2,.sl false [],.sl false [.agg (reSl 98),.agg reB],I 0,I 0,I 0,I 0,.bool false]
theorem u43a (H:List MB):call Pg polU 43 [I 97] H=some (.agg (reSl 97),H):=Bu (n:=60) 20 43 _ _ _ (by kernel_rfl)
theorem u43b (H:List MB):call Pg polU 43 [I 98] H=some (.agg (reSl 98),H):=Bu (n:=60) 20 43 _ _ _ (by kernel_rfl)
theorem u25 (H:List MB):call Pg polU 25 [.agg (reP++[I 0,.bool false])] H=some (.tup [prgAV bothP,I 0],H):=Bu (n:=60) 20 25 _ _ _ (by kernel_rfl)
theorem Rf (H:List MB):call Pg polU 21 [cB,.sl true [I 97,I 97,I 98,I 98],I 0] H=some (.tup [.agg [I 0,I 3,.sl false []],.bool true,I 0],H):=by
 rw[Dk (l:=[cB,.sl false [I 97,I 97,I 98,I 98],I 0]) (H1:=H) rfl rfl rfl];exact u21b H
theorem Rd (H:List MB):call Pg polU 21 [cB,.sl true [I 97,I 97],I 0] H=some (.tup [.agg [I 0,I 0,.sl false []],.bool false,I 0],H):=by
 rw[Dk (l:=[cB,.sl false [I 97,I 97],I 0]) (H1:=H) rfl rfl rfl];exact u21n H
theorem u18t (H:List MB):call Pg polU 18 [.sl false [I 98],.sl true [I 98]] H=some (.bool true,H):=by
 rw[Dk (l:=[.sl false [I 98],.sl false [I 98]]) (H1:=H) rfl rfl rfl];exact u18 H
abbrev reT:AV:=.agg [.int .i64 2,.sl true [],.sl true [.agg (reSl 98),.agg [.int .i64 3,.sl true [],.sl true [.agg (reSl 97),.agg [.int .i64 2,.sl true [],.sl true [.agg (reSl 97),.agg (reSl 98)],.int .i64 0,.int .i64 0,.int .i64 0,.int .i64 0,.bool false]],.int .i64 0,.int .i64 0,.int .i64 0,.int .i64 0,.bool false]],.int .i64 0,.int .i64 0,.int .i64 0,.int .i64 0,.bool false,.int .i64 0,.bool false]
theorem u25t (H:List MB):call Pg polU 25 [reT] H=some (.tup [prgAV bothP,I 0],H):=by
 rw[Dk (l:=[.agg (reP++[I 0,.bool false])]) (H1:=H) rfl rfl rfl];exact u25 H
theorem u19 (H:List MB):call Pg polU 19 [] H=some (.bool true,H):=by
 have e1:=u12b;have e2:=u12a;have e3:=u14a;have e4:=Rf;have e5:=Rd;have e6:=u17;have e7:=u43a;have e8:=u43b;have e9:=u14p;have e10:=u18t;have e11:=u42b;have e12:=u42a;have hnp:ofK (Value.pointer none)=.nilp:=rfl;have a43:=fun H=>Hf (cf:=call Pg polU) u43b rfl rfl H;have a25:=fun H=>Hf (cf:=call Pg polU) u25t rfl rfl H;refine AT Tryz.func19 rfl rfl rfl rfl rfl rfl (fun _=>rfl) (by simp[AV.plain,AV.plainL,AF,AG,AH,AI]) (by simp[AV.plain,AV.plainL,AF,AG,AH,AI]) ?_ H;simp +contextual (disch:=omega) only[Tryz.f19,dd19,go_sem,simprocAttr,mu19,↓AD,↓AC,↓AB,↓AA,NJ,Lq,Lp,NI,NK,e11,e12,e1,e2,e3,hnp,e4,e5,e6,e7,e8,a43,a25,e9,e10];repeat' (first|intro _|apply And.intro|(unfold dOk;kernel_rfl)|(show (_||_)=true;kernel_rfl)|(show (_&&_)=true;kernel_rfl))
 exact⟨_,rfl⟩
theorem extU:ExtOk Pg polU:=by
 intro f g hg args H r H' h;by_cases e:f=44
 ·subst e;have:polU.ext 44=some ext44:=rfl;rw[this]at hg;obtain rfl:=Option.some.inj hg;exact Kz h
 by_cases e1:f=12
 ·subst e1;have:polU.ext 12=some (call Pg pol1 12):=rfl;rw[this]at hg;obtain rfl:=Option.some.inj hg;exact ok1.1 12 args H r H' (by decide) h
 by_cases e2:f=14
 ·subst e2;have:polU.ext 14=some (call Pg pol1 14):=rfl;rw[this]at hg;obtain rfl:=Option.some.inj hg;exact ok1.1 14 args H r H' (by decide) h
 by_cases e3:f=54
 ·subst e3;have:polU.ext 54=none:=rfl;rw[this]at hg;cases hg
 have:polU.ext f=pol0.ext f:=by
  show (if f=44 then some ext44 else if f=54 then none else if f=12 then some (call Pg pol1 12) else if f=14 then some (call Pg pol1 14) else pol0.ext f)=_;rw[if_neg e,if_neg e3,if_neg e1,if_neg e2]
 rw[this]at hg;exact ext0 f g hg args H r H' h
theorem okU:CfOk Pg (call Pg polU):=Gk extU BL
end
end Go.Ev
namespace Go.Ev
noncomputable def polL (l:List Nat):Pol:={ pol1 with pure:=fun f=>!(19::(l++notPure)).contains f,ext:=fun f=>if f=19 then some (call Pg polU 19) else if l.contains f=true then some (call Pg pol1 f) else pol1.ext f }
theorem Il {l:List Nat}{f:Nat} (h:l.contains f=true) (h19:f≠19):(polL l).ext f=some (call Pg pol1 f):=by
 show (if f=19 then some (call Pg polU 19) else if l.contains f=true then some (call Pg pol1 f) else pol1.ext f)=_;rw[if_neg h19,if_pos h]
theorem extL {l:List Nat} (hy:l.contains yldF=false):ExtOk Pg (polL l):=by
 intro f g hg args H r H' h;by_cases e:f=19
 ·subst e;have:(polL l).ext 19=some (call Pg polU 19):=rfl;rw[this]at hg;obtain rfl:=Option.some.inj hg;exact okU.1 19 args H r H' (by decide) h
 by_cases e1:l.contains f=true
 ·rw[Il e1 e]at hg;obtain rfl:=Option.some.inj hg;exact ok1.1 f args H r H' (fun e2=>by rw[e2,hy]at e1;cases e1) h
 have:(polL l).ext f=pol1.ext f:=by
  show (if f=19 then some (call Pg polU 19) else if l.contains f=true then some (call Pg pol1 f) else pol1.ext f)=_;rw[if_neg e,if_neg e1]
 rw[this]at hg;exact ext1 f g hg args H r H' h
theorem okL {l:List Nat} (hy:l.contains yldF=false):CfOk Pg (call Pg (polL l)):=Gk (extL hy) BL
theorem l19 (l:List Nat) (H:List MB):call Pg (polL l) 19 [] H=some (.bool true,H):=by
 have hp:(polL l).pure 19=false:=by
  show (!(19::(l++notPure)).contains 19)=false;simp
 have he:(polL l).ext 19=some (call Pg polU 19):=rfl;rw[BO];unfold evStep evBody;rw[if_neg (by rw[hp];decide),if_neg (by decide)];simp only[he];exact u19 H
theorem Si {l:List Nat} (hy:l.contains yldF=false) (f:Nat) (h19:f≠19) (hf:l.contains f=true) {args:List AV}{H H':List MB}{r:AV} (h:call Pg pol1 f args H=some (r,H')):call Pg (polL l) f args H=some (r,H'):=by
 have hp:(polL l).pure f=false:=by
  show (!(19::(l++notPure)).contains f)=false;have:f∈l:=by simpa using hf
  simp[this]
 rw[BO];unfold evStep evBody;rw[if_neg (by rw[hp];decide),if_neg (fun e2=>by rw[e2,hy]at hf;cases hf)];simp only[Il hf h19];exact h
end Go.Ev
namespace Go.Ev
attribute [local go_sem] BM evBin evBuild evMakeSlice AV.cells AV.ok splice
def vI (n:Nat):List Int:=if n<128 then [(n:Int)] else((128+n % 128:Nat):Int)::vI (n / 128)
termination_by n
decreasing_by omega
def zz (n:Int):Nat:=if n<0 then(2*(-(n+1))+1).toNat else(2*n).toNat
def iE (n:Int):List Int:=vI (zz n)
end Go.Ev
namespace Go.Ev
attribute [local go_sem] BM evBin evBuild evMakeSlice AV.cells AV.ok splice
section
attribute [local go_sem] evAppend
def aroundI (n m:Int):Int:=(if n<0 then-(n+1) else n) % m
def In64 (n:Int):Prop:=-9223372036854775808<=n/\n<=9223372036854775807
theorem Nm {n m:Int} (h:0<m):0<=aroundI n m/\aroundI n m<m:=by
 unfold aroundI;have:0<=(if n<0 then-(n+1) else n):=by split<;>omega
 exact⟨Int.emod_nonneg _ (by omega),Int.emod_lt_of_pos _ h⟩
theorem f12 (n m:Int) (hn:In64 n) (hm:m≠0) (H:List MB):call Pg pol1 20 [.int .i64 n,.int .i64 m] H=some (I (aroundI n m),H):=by
 obtain⟨h1,h2⟩:=hn;refine AT Tryz.func20 rfl rfl rfl rfl rfl rfl (fun _=>rfl) (by simp[AV.plain,AV.plainL,AF,AG,AH,AI]) (by simp[AV.plain,AV.plainL,AF,AG,AH,AI]) ?_ H;simp +contextual (disch:=omega) only[Tryz.f20,dd20,go_sem,simprocAttr,mu20,↓AD,↓AC,↓AB,↓AA];unfold aroundI;refine⟨fun h=>⟨hm,fzEq rfl ?_⟩,fun h=>⟨hm,fzEq rfl ?_⟩⟩
 ·rw[if_pos h];try (congr 2;omega)
 ·rw[if_neg h]
def pickI (l:List Int) (i m:Int):Int:=if i<0 then 0 else match l[i.toNat]? with
 | some x=>aroundI x m
 | none=>0
theorem Gb {l:List Int}{i m:Int} (h:0<m):0<=pickI l i m/\pickI l i m<m:=by
 unfold pickI;split
 ·omega
 ·split
  ·exact Nm h
  ·omega
theorem f57 (l:List Int) (i m:Int) (hl:∀ x∈l,In64 x) (hm:m≠0) (H:List MB):call Pg pol1 34 [.sl false (l.map I),.int .i64 i,.int .i64 m] H=some (I (pickI l i m),H):=by
 refine AT Tryz.func34 rfl rfl rfl rfl rfl rfl (fun _=>rfl) (by simp[AV.plain,AV.plainL,AF,AG,AH,AI]) (by simp[AV.plain,AV.plainL,AF,AG,AH,AI]) ?_ H;by_cases h0:i<0
 ·have e:pickI l i m=0:=by simp[pickI,h0]
  rw[e];simp +contextual (disch:=omega) only[Tryz.f34,dd34,go_sem,simprocAttr,mu34,↓AD,↓AC,↓AB,↓AA];exact fzEq rfl rfl
 ·obtain⟨k,rfl⟩:∃ k:Nat,i=k:=⟨i.toNat,by omega⟩;by_cases h1:k<l.length
  ·obtain⟨p,hp⟩:∃ p,l[k]?=some p:=⟨_,getElem?_eq_getElem h1⟩;have e:pickI l k m=aroundI p m:=by simp[pickI,h0,hp]
   rw[e];have hf:=f12 p m (hl p (mem_of_getElem? hp)) hm;simp +contextual (disch:=omega) only[Tryz.f34,dd34,go_sem,simprocAttr,mu34,↓AD,↓AC,↓AB,↓AA,hp,hf];exact fzEq rfl rfl
  ·have e:pickI l k m=0:=by simp[pickI,getElem?_eq_none (Nat.le_of_not_lt h1)]
   rw[e];simp +contextual (disch:=omega) only[Tryz.f34,dd34,go_sem,simprocAttr,mu34,↓AD,↓AC,↓AB,↓AA];exact fzEq rfl rfl
end
section
attribute [local go_sem] evAppend Ae Al bndO bnd evEq eqCells not_false_eq_true not_true_eq_false AX size_empty length_append map_append tySzE head?_drop mul_one AQ AU AO AR AS AY
section
variable {α:Type} (A K:List α) (x y v:α)
theorem Bx:(A++x::K)[A.length]?=some x:=by simp
theorem OT:(A++x::y::K)[A.length+1]?=some y:=by
 rw[List.getElem?_append_right (by omega)];simp
theorem Jc:(A++x::K).set A.length v=A++v::K:=by simp
theorem OR:(A++x::y::K).set (A.length+1) v=A++x::v::K:=by
 rw[List.set_append_right _ _ (by omega)];simp
end
section
variable {k:IntKind}{a b:Int}
end
end
section
attribute [local go_sem] evAppend Ae Al bndO bnd evEq eqCells not_false_eq_true not_true_eq_false AX size_empty length_append map_append
def assertI (n:Int) (b a:Option Int):Bool:=
 let w:=fun(o:Option Int)=>match o with
  | some x=>wordI x
  | none=>false
 let e:=fun(o:Option Int)=>match o with
  | some x=>x==10
  | none=>true
 if n=0 then b.isNone else if n=1 then a.isNone else if n=2 then e b else if n=3 then e a else if n=4 then w b != w a else if n=5 then w b==w a else false
def befS (t:List Int) (k:Nat):Option Int:=if k=0 then none else t[k-1]?
end
inductive Goal where
 | nil
 | mk (kind:Int) (re:Re) (k fr:Int) (next:Goal)
def goalA:Goal->AV
 | .nil=>.nilp
 | .mk kind re k fr next=>.pt (I kind::(reC re++[I k,I fr,goalA next]))
abbrev goalC (kind:Int) (re:Re) (k fr:Int) (next:Goal):List AV:=I kind::(reC re++[I k,I fr,goalA next])
theorem Bm:∀(a b:List AV),AV.plainL (a++b)=(AV.plainL a&&AV.plainL b)
 | [],b=>by simp[AV.plainL]
 | x::a,b=>by simp[AV.plainL,Bm a b,Bool.and_assoc]
theorem CP:∀ g:Goal,AV.plain (goalA g)=true
 | .nil=>rfl
 | .mk kind re k fr next=>by
   have h1:=CP next
   have h2:=Ad re;simp[goalA,AV.plain,AV.plainL,Bm,h1,h2]
theorem CB (kind:Int) (re:Re) (k fr:Int) (next:Goal):AV.plainL (goalC kind re k fr next)=true:=by
 have h1:=CP next
 have h2:=Ad re;simp[AV.plain,AV.plainL,Bm,h1,h2]
abbrev Caps:=List (Int×Int)
abbrev capA (c:Caps):AV:=.sl false (c.map spanAV)
structure SS where
 steps:Int
 empty:Bool
 ends:List Int
 caps:List Caps
def withI (c:Caps) (n fr to:Int):Caps:=if 1<=n/\n<=c.length then c.set (n-1).toNat (fr,to) else c
def Re.op:Re->Int | .mk op _ _ _ _ _ _ _=>op
def Re.set:Re->List (Int×Int) | .mk _ set _ _ _ _ _ _=>set
def Re.kids:Re->List Re | .mk _ _ kids _ _ _ _ _=>kids
def Re.mn:Re->Int | .mk _ _ _ mn _ _ _ _=>mn
def Re.mx:Re->Int | .mk _ _ _ _ mx _ _ _=>mx
def Re.md:Re->Int | .mk _ _ _ _ _ md _ _=>md
def Re.n:Re->Int | .mk _ _ _ _ _ _ n _=>n
def stepSz (fuel:Int) (s:SS):SS:=⟨s.steps+1,s.empty||decide (fuel<s.steps+1),s.ends,s.caps⟩
abbrev RunT:=Goal->Int->Caps->SS->Option (Bool×SS)
def orR (a:Option (Bool×SS)) (f:SS->Option (Bool×SS)):Option (Bool×SS):=
 match a with
 | none=>none
 | some (true,s)=>some (true,s)
 | some (false,s)=>f s
def repR (fuel:Int) (R:RunT) (re:Re) (k:Int) (next:Goal) (i:Int) (c:Caps) (s:SS):Option (Bool×SS):=
 let s1:=stepSz fuel s
 if s1.empty=true then some (true,s1)
 else
  match re.kids with
  | []=>none
  | kid::_=>
    let once:=Goal.mk 0 kid 0 0 (.mk 2 re k i next)
    let more:Bool:=decide (re.mx = -1)||decide (k<re.mx)
    if k<re.mn then R once i c s1
    else if re.md=1 then orR (R next i c s1) fun s2=>if more then R once i c s2 else some (false,s2)
    else orR (if more then R once i c s1 else some (false,s1)) fun s2=>R next i c s2
def catG (next:Goal):List Re->Goal
 | []=>next
 | k::ks=>.mk 0 k 0 0 (catG next ks)
def altR (R:RunT) (next:Goal) (i:Int) (c:Caps):List Re->SS->Option (Bool×SS)
 | [],s=>some (false,s)
 | k::ks,s=>orR (R (.mk 0 k 0 0 next) i c s) (altR R next i c ks)
def nodeR (t:List Int) (fuel:Int) (R:RunT) (re:Re) (next:Goal) (i:Int) (c:Caps) (s:SS):Option (Bool×SS):=
 if re.op=4 then repR fuel R re 0 next i c s
 else
  let s1:=stepSz fuel s
  if s1.empty=true then some (true,s1)
  else if re.op=1 then
   match t[i.toNat]? with
   | some x=>if hasSpan re.set x=true then R next (i+1) c s1 else some (false,s1)
   | none=>some (false,s1)
  else if re.op=2 then R (catG next re.kids) i c s1
  else if re.op=3 then altR R next i c re.kids s1
  else if re.op=5 then
   match re.kids with
   | []=>none
   | kid::_=>R (.mk 0 kid 0 0 (.mk 3 re 0 i next)) i c s1
  else if re.op=11 then(if assertI re.n (befS t i.toNat) t[i.toNat]?=true then R next i c s1 else some (false,s1))
  else R next i c s1
def runG (t:List Int) (fuel:Int):Nat->RunT
 | 0,_,_,_,_=>none
 | _+1,.nil,i,c,s=>some (false,⟨s.steps,s.empty,s.ends++[i],s.caps++[c]⟩)
 | d+1,.mk kind re k fr next,i,c,s=>
   if kind=1 then repR fuel (runG t fuel d) re k next i c s
   else if kind=2 then(if re.mn<=k/\i=fr then some (false,s) else runG t fuel d (.mk 1 re (k+1) 0 next) i c s)
   else if kind=3 then runG t fuel d next i (withI c re.n fr i) s
   else nodeR t fuel (runG t fuel d) re next i c s
end Go.Ev
