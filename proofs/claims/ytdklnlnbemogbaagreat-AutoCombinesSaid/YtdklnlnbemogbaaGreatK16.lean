/- What functions of the program compute; no further conditions. -/
import Derived.Test.YtdklnlnbemogbaaGreatK15
set_option linter.unusedVariables false
set_option linter.unusedSimpArgs false
open List (any_eq_true append_assoc getElem?_append_left getElem?_map getElem?_set_ne getElem?_set_self getElem_mem head?_drop length_append length_cons length_map map_append map_cons map_take mem_cons mem_map mem_range)
open Nat (le_refl lt_or_ge mul_one)
open Go.Proofs Go.RowKit Go.IntWalk
set_option maxHeartbeats 8000000
set_option maxRecDepth 100000
namespace Go.Ev
attribute [local go_sem] evAppend evBin AV.cells strOf
section
theorem f136 (a b:Int) (H:List MB):call Pg pol1 173 [.agg [.int .i64 a,.int .i64 b]] H=some (.bool (decide (0<=a/\a<=b/\b<=1114111)),H):=by
 refine AQ Tryz.func173 rfl rfl rfl rfl rfl rfl (fun _=>rfl) (by simp[AV.plain,AV.plainL,AF,AH,AK,AM]) (by simp[AV.plain,AV.plainL,AF,AH,AK,AM]) ?_ H;simp only[Tryz.f173,Up,go_sem,simprocAttr,UB];repeat' (first|intro _|apply And.intro|refine fzEq rfl ?_)
 all_goals (congr 1;simp only[decide_eq_decide,false_eq_decide_iff];omega)
def badAt (l:List (Int×Int)) (i:Nat):Bool:=
 match l[i]? with
 | some p=>!decide (0<=p.1/\p.1<=p.2/\p.2<=1114111)||(match i with
   | 0=>false
   | k+1=>match l[k]? with
     | some q=>decide (p.1-q.2<2)
     | none=>false)
 | none=>false
def refSpans (l:List (Int×Int)):Int:=if(List.range l.length).any (badAt l) then 1 else if 64<l.length then 4 else 0
theorem Ci {l:List (Int×Int)}{i:Nat} (hi:i<l.length) (h:badAt l i=true):refSpans l=1:=by
 unfold refSpans;rw[if_pos];exact any_eq_true.2 ⟨i,mem_range.2 hi,h⟩
theorem FB {l:List (Int×Int)} (h:∀ k,k<l.length->badAt l k=false):refSpans l=if 64<l.length then 4 else 0:=by
 unfold refSpans;rw[if_neg];intro h2;obtain⟨k,h3,h4⟩:=any_eq_true.1 h2;rw[h k (mem_range.1 h3)]at h4;cases h4
theorem f119 (l:List (Int×Int)) (hl:l.length<=1000000) (H:List MB):call Pg pol1 119 [.sl false (l.map spanAV)] H=some (I (refSpans l),H):=by
 refine AQ Tryz.func119 rfl rfl rfl rfl rfl rfl (fun _=>rfl) (by simp[AV.plain,AV.plainL,AF,AH,AK,AM]) (by simp[AV.plain,AV.plainL,AF,AH,AK,AM]) ?_ H;simp only[Tryz.f119,Mk,go_sem,simprocAttr,Lx];refine AS (M:=(Ms 119 2)) rfl l.length (fun i=>(⟨40,[(3,I i),(0,.sl false (l.map spanAV))],[]⟩:St)) (fun i=>∀ k,k<i->badAt l k=false) ?_ ?_ (fun k h=>by omega) _ rfl
 ·intro i hlt hg;obtain⟨p,hp⟩:∃ p,l[i]?=some p:=⟨_,zga hlt⟩;have ext:badAt l i=false->∀ k,k<i+1->badAt l k=false:=fun h k hk=>by
   rcases lt_or_ge k i with h1|h1
   ·exact hg k h1
   ·obtain rfl:k=i:=by omega
    exact h
  by_cases hgd:0<=p.1/\p.1<=p.2/\p.2<=1114111
  ·rcases i with _|i
   ·simp +contextual (disch:=omega) only[Tryz.f119,Mk,go_sem,simprocAttr,Lx,hp,spanAV,hgd,f136];refine⟨by unfold dOk;kernel_rfl,ext ?_,rfl⟩;simp[badAt,hp,hgd]
   ·obtain⟨q,hq⟩:∃ q,l[i]?=some q:=⟨_,zga (by omega)⟩;have hbq:=hg i (by omega);simp only[badAt,hq,Bool.or_eq_false_iff,Bool.not_eq_false',decide_eq_true_eq]at hbq
    replace hbq:=hbq.1
    have hb:badAt l (i+1)=decide (p.1-q.2<2):=by simp[badAt,hp,hq,hgd]
    simp +contextual (disch:=omega) only[Tryz.f119,Mk,go_sem,simprocAttr,Lx,hp,hq,spanAV,hgd,f136];refine⟨by unfold dOk;kernel_rfl,?_⟩;refine⟨fun h=>fzEq rfl ?_,fun h=>⟨ext ?_,rfl⟩⟩
    ·rw[Ci hlt];simp[hb];omega
    ·simp[hb];omega
  ·simp +contextual (disch:=omega) only[Tryz.f119,Mk,go_sem,simprocAttr,Lx,hp,spanAV,hgd,f136];refine⟨by unfold dOk;kernel_rfl,fzEq rfl ?_⟩;rw[Ci hlt (by simp only[badAt,hp];simp only[hgd,decide_false,Bool.not_false,Bool.true_or])]
 ·intro hg;rw[FB hg];simp +contextual (disch:=omega) only[Tryz.f119,Mk,go_sem,simprocAttr,Lx];refine⟨fun h=>fzEq rfl ?_,fun h=>fzEq rfl ?_⟩
  ·rw[if_pos (by omega)]
  ·rw[if_neg (by omega)]
end
section
theorem f91 (a b:Int) (H:List MB):call Pg pol1 136 [.agg [.int .i64 a,.int .i64 b]] H=some (.bool (decide (0<=a/\a<=b/\b<=1114111)),H):=by
 refine AQ Tryz.func136 rfl rfl rfl rfl rfl rfl (fun _=>rfl) (by simp[AV.plain,AV.plainL,AF,AH,AK,AM]) (by simp[AV.plain,AV.plainL,AF,AH,AK,AM]) ?_ H;simp only[Tryz.f136,Ss,go_sem,simprocAttr,Sg];repeat' (first|intro _|apply And.intro|refine fzEq rfl ?_)
 all_goals (congr 1;simp only[decide_eq_decide,false_eq_decide_iff];omega)
theorem f121 (l:List (Int×Int)) (hl:l.length<=1000000) (H:List MB):call Pg pol1 88 [.sl false (l.map spanAV)] H=some (I (refSpans l),H):=by
 refine AQ Tryz.func88 rfl rfl rfl rfl rfl rfl (fun _=>rfl) (by simp[AV.plain,AV.plainL,AF,AH,AK,AM]) (by simp[AV.plain,AV.plainL,AF,AH,AK,AM]) ?_ H;simp only[Tryz.f88,dd88,go_sem,simprocAttr,mu88];refine AS (M:=(Ms 88 2)) rfl l.length (fun i=>(⟨35,[(7,I i),(6,I l.length),(5,.sl false (l.map spanAV)),(0,.sl false (l.map spanAV))],[]⟩:St)) (fun i=>∀ k,k<i->badAt l k=false) ?_ ?_ (fun k h=>by omega) _ (by first|rfl|(refine AO rfl (by rfl) (by rfl) (by rfl) ?_ ?_<;>simp[AV.underL,AV.under,MB.under,AG,AJ,AF,AH,AK,AM,-map_take]))
 ·intro i hlt hg;obtain⟨p,hp⟩:∃ p,l[i]?=some p:=⟨_,zga hlt⟩;have ext:badAt l i=false->∀ k,k<i+1->badAt l k=false:=fun h k hk=>by
   rcases lt_or_ge k i with h1|h1
   ·exact hg k h1
   ·obtain rfl:k=i:=by omega
    exact h
  by_cases hgd:0<=p.1/\p.1<=p.2/\p.2<=1114111
  ·rcases i with _|i
   ·simp +contextual (disch:=omega) only[Tryz.f88,dd88,go_sem,simprocAttr,mu88,hp,spanAV,hgd,f91];refine⟨by unfold dOk;kernel_rfl,ext ?_,(by first|rfl|(refine AO rfl (by rfl) (by rfl) (by rfl) ?_ ?_<;>simp[AV.underL,AV.under,MB.under,AG,AJ,AF,AH,AK,AM,-map_take]))⟩;simp[badAt,hp,hgd]
   ·obtain⟨q,hq⟩:∃ q,l[i]?=some q:=⟨_,zga (by omega)⟩;have hbq:=hg i (by omega);simp only[badAt,hq,Bool.or_eq_false_iff,Bool.not_eq_false',decide_eq_true_eq]at hbq
    replace hbq:=hbq.1
    have hb:badAt l (i+1)=decide (p.1-q.2<2):=by simp[badAt,hp,hq,hgd]
    simp +contextual (disch:=omega) only[Tryz.f88,dd88,go_sem,simprocAttr,mu88,hp,hq,spanAV,hgd,f91];refine⟨by unfold dOk;kernel_rfl,fun h=>fzEq rfl ?_,fun h=>⟨ext ?_,(by first|rfl|(refine AO rfl (by rfl) (by rfl) (by rfl) ?_ ?_<;>simp[AV.underL,AV.under,MB.under,AG,AJ,AF,AH,AK,AM,-map_take]))⟩⟩
    ·rw[Ci hlt];simp[hb];omega
    ·simp[hb];omega
  ·simp +contextual (disch:=omega) only[Tryz.f88,dd88,go_sem,simprocAttr,mu88,hp,spanAV,hgd,f91];refine⟨by unfold dOk;kernel_rfl,fzEq rfl ?_⟩;rw[Ci hlt (by simp only[badAt,hp];simp only[hgd,decide_false,Bool.not_false,Bool.true_or])]
 ·intro hg;rw[FB hg];simp +contextual (disch:=omega) only[Tryz.f88,dd88,go_sem,simprocAttr,mu88];refine⟨fun h=>fzEq rfl ?_,fun h=>fzEq rfl ?_⟩
  ·rw[if_pos (by omega)]
  ·rw[if_neg (by omega)]
end
section
attribute [local go_sem] An As bndO bnd evEq eqCells not_false_eq_true not_true_eq_false toList_some Array.size_empty length_append map_append
def hasSpan (l:List (Int×Int)) (x:Int):Bool:=l.any fun p=>decide (p.1<=x)&&decide (x<=p.2)
theorem Nf {l:List (Int×Int)}{x:Int}{i:Nat}{p:Int×Int} (h:l[i]?=some p) (hp:p.1<=x/\x<=p.2):hasSpan l x=true:=by
 unfold hasSpan;exact any_eq_true.2 ⟨p,zgc h,by simp[hp]⟩
theorem Nd {l:List (Int×Int)}{x:Int} (h:∀ k p,k<l.length->l[k]?=some p->¬ (p.1<=x/\x<=p.2)):hasSpan l x=false:=by
 unfold hasSpan;rw[List.any_eq_false];intro p hp;obtain⟨k,hk,e⟩:=List.getElem_of_mem hp;have:=h k p hk (by rw[<- e];exact zga hk)
 simpa using this
end
section
def aroundI (n m:Int):Int:=(if n<0 then-(n+1) else n) % m
def In64 (n:Int):Prop:=-9223372036854775808<=n/\n<=9223372036854775807
theorem E2 {n m:Int} (h:0<m):0<=aroundI n m/\aroundI n m<m:=by
 unfold aroundI;have:0<=(if n<0 then-(n+1) else n):=by split<;>omega
 exact⟨Int.emod_nonneg _ (by omega),Int.emod_lt_of_pos _ h⟩
theorem f12 (n m:Int) (hn:In64 n) (hm:m≠0) (H:List MB):call Pg pol1 10 [.int .i64 n,.int .i64 m] H=some (I (aroundI n m),H):=by
 obtain⟨h1,h2⟩:=hn;refine AQ Tryz.func10 rfl rfl rfl rfl rfl rfl (fun _=>rfl) (by simp[AV.plain,AV.plainL,AF,AH,AK,AM]) (by simp[AV.plain,AV.plainL,AF,AH,AK,AM]) ?_ H;simp +contextual (disch:=omega) only[Tryz.f10,dd10,go_sem,simprocAttr,mu10];unfold aroundI;refine⟨fun h=>⟨hm,fzEq rfl ?_⟩,fun h=>⟨hm,fzEq rfl ?_⟩⟩
 ·rw[if_pos h];try (congr 2;omega)
 ·rw[if_neg h]
def pickI (l:List Int) (i m:Int):Int:=if i<0 then 0 else match l[i.toNat]? with
 | some x=>aroundI x m
 | none=>0
theorem Fw {l:List Int}{i m:Int} (h:0<m):0<=pickI l i m/\pickI l i m<m:=by
 unfold pickI;split
 ·omega
 ·split
  ·exact E2 h
  ·omega
theorem f57 (l:List Int) (i m:Int) (hl:∀ x∈l,In64 x) (hm:m≠0) (H:List MB):call Pg pol1 70 [.sl false (l.map I),.int .i64 i,.int .i64 m] H=some (I (pickI l i m),H):=by
 refine AQ Tryz.func70 rfl rfl rfl rfl rfl rfl (fun _=>rfl) (by simp[AV.plain,AV.plainL,AF,AH,AK,AM]) (by simp[AV.plain,AV.plainL,AF,AH,AK,AM]) ?_ H;by_cases h0:i<0
 ·have e:pickI l i m=0:=by simp[pickI,h0]
  rw[e];simp +contextual (disch:=omega) only[Tryz.f70,dd70,go_sem,simprocAttr,mu70];exact fzEq rfl rfl
 ·obtain⟨k,rfl⟩:∃ k:Nat,i=k:=⟨i.toNat,by omega⟩;by_cases h1:k<l.length
  ·obtain⟨p,hp⟩:∃ p,l[k]?=some p:=⟨_,zga h1⟩;have e:pickI l k m=aroundI p m:=by simp[pickI,h0,hp]
   rw[e];have hf:=f12 p m (hl p (zgc hp)) hm;simp +contextual (disch:=omega) only[Tryz.f70,dd70,go_sem,simprocAttr,mu70,hp,hf];exact fzEq rfl rfl
  ·have e:pickI l k m=0:=by simp[pickI,List.getElem?_eq_none (Nat.le_of_not_lt h1)]
   rw[e];simp +contextual (disch:=omega) only[Tryz.f70,dd70,go_sem,simprocAttr,mu70];exact fzEq rfl rfl
end
end Go.Ev
/- What a state of the machine is: the plain laws of the search for it. -/
namespace Go.Ev
structure VS where
 r:List Nat
 a:List Bool
 c:Bool
def VS.mark (s:VS) (n:Nat):VS:=⟨s.r,s.a.set n true,s.c⟩
def VS.found (s:VS) (n:Nat) (c:Bool):VS:=⟨s.r++[n],s.a.set n true,c⟩
def VS.open (s:VS):Nat:=s.a.countP (fun b=>!b)
def visit (ins:List Ins):Nat->Nat->VS->VS
 | 0,_,s=>s
 | k+1,n,s=>
   if s.c=true∨s.a[n]?≠some false then s
   else match ins[n]? with
    | none=>s
    | some i=>
      if i.op=0 then s.found n true
      else if i.op=1 then s.found n false
      else if i.op=3 then visit ins k i.x.toNat (s.mark n)
      else if i.op=2 then visit ins k i.y.toNat (visit ins k i.x.toNat (s.mark n))
      else if i.op=4 then visit ins k (n+1) (s.mark n)
      else s.mark n
def visits (ins:List Ins) (k:Nat) (ns:List Nat) (s:VS):VS:=ns.foldl (fun s n=>visit ins k n s) s
def vs0 (n:Nat):VS:=⟨[],List.replicate n false,false⟩
def stateL (ins:List Ins) (ns:List Nat):List Nat:=(visits ins (ins.length+1) ns (vs0 ins.length)).r
theorem LM (ins:List Ins) (k n:Nat) (ns:List Nat) (s:VS):visits ins k (n::ns) s=visits ins k ns (visit ins k n s):=rfl
theorem Is {l:List Bool}{n:Nat} (h:l[n]?=some false):(l.set n true).countP (fun b=>!b)+1=l.countP (fun b=>!b):=by
 induction l generalizing n with
 | nil=>simp at h
 | cons b l ih=>
   cases n with
   | zero=>
     simp at h;subst h;simp
   | succ n=>
     simp at h;have:=ih h;simp only[List.set_cons_succ,List.countP_cons];omega
theorem PV {s:VS}{n:Nat} (h:s.a[n]?=some false):(s.mark n).open+1=s.open:=Is h
theorem H5 {s:VS}{n:Nat}{c:Bool} (h:s.a[n]?=some false):(s.found n c).open+1=s.open:=Is h
structure VS.Ok (N:Nat) (s:VS):Prop where
 len:s.a.length=N
 res:∀ n∈s.r,n<N/\s.a[n]?=some true
 nodup:s.r.Nodup
theorem VS.Ok.mark {N n:Nat}{s:VS} (h:s.Ok N):(s.mark n).Ok N:=by
 refine⟨by simp[VS.mark,h.len],fun m hm=>?_,h.nodup⟩;obtain⟨h1,h2⟩:=h.res m hm;refine⟨h1,?_⟩;simp only[VS.mark];by_cases e:n=m
 ·subst e;rw[getElem?_set_self (by rw[h.len];exact h1)]
 ·rw[getElem?_set_ne e];exact h2
theorem VS.Ok.found {N n:Nat}{c:Bool}{s:VS} (h:s.Ok N) (hn:s.a[n]?=some false):(s.found n c).Ok N:=by
 have hlt:n<s.a.length:=(zgb.1 hn).1;have hm:=h.mark (n:=n);refine⟨hm.len,fun m hm'=>?_,?_⟩
 ·rcases List.mem_append.1 hm' with h1|h1
  ·exact hm.res m h1
  ·rw[List.mem_singleton.1 h1];exact⟨by rw[<- h.len];exact hlt,by simp only[VS.found];rw[getElem?_set_self hlt]⟩
 ·refine List.nodup_append.2 ⟨h.nodup,by simp,fun x hx y hy e=>?_⟩;rw[List.mem_singleton.1 hy]at e;subst e;have:=(h.res x hx).2;rw[hn]at this;cases this
theorem VS.Ok.visit {N:Nat}{ins:List Ins}:∀ {k n:Nat}{s:VS},s.Ok N->(visit ins k n s).Ok N/\(Go.Ev.visit ins k n s).open<=s.open
 | 0,n,s,h=>⟨h,le_refl _⟩
 | k+1,n,s,h=>by
   simp only[Go.Ev.visit];split
   ·exact⟨h,le_refl _⟩
   ·rename_i hc;have hn:s.a[n]?=some false:=by
     by_cases e:s.a[n]?=some false
     ·exact e
     ·exact absurd (.inr e) hc
    have ho:=PV hn;split
    ·exact⟨h,le_refl _⟩
    ·split
     ·exact⟨h.found hn,by have:=H5 (c:=true) hn;omega⟩
     ·split
      ·exact⟨h.found hn,by have:=H5 (c:=false) hn;omega⟩
      ·split
       ·have:=VS.Ok.visit (ins:=ins) (k:=k) (n:=‹Ins›.x.toNat) (h.mark (n:=n));exact⟨this.1,by omega⟩
       ·split
        ·have h1:=VS.Ok.visit (ins:=ins) (k:=k) (n:=‹Ins›.x.toNat) (h.mark (n:=n));have h2:=VS.Ok.visit (ins:=ins) (k:=k) (n:=‹Ins›.y.toNat) h1.1;exact⟨h2.1,by omega⟩
        ·split
         ·have:=VS.Ok.visit (ins:=ins) (k:=k) (n:=n+1) (h.mark (n:=n));exact⟨this.1,by omega⟩
         ·exact⟨h.mark,by omega⟩
theorem VS.Ok.visits {N k:Nat}{ins:List Ins}:∀ {ns:List Nat}{s:VS},s.Ok N->(visits ins k ns s).Ok N/\(Go.Ev.visits ins k ns s).open<=s.open
 | [],s,h=>⟨h,le_refl _⟩
 | n::ns,s,h=>by
   have h1:=h.visit (ins:=ins) (k:=k) (n:=n);have h2:=VS.Ok.visits (ins:=ins) (k:=k) (ns:=ns) h1.1;rw[LM];exact⟨h2.1,by omega⟩
theorem Jt {N:Nat}{l:List Nat} (h:l.Nodup) (hl:∀ n∈l,n<N):l.length<=N:=by
 have:=List.Nodup.length_le_of_subset h (l₂:=List.range N) (fun x hx=>mem_range.2 (hl x hx))
 simpa using this
theorem VS.Ok.small {N:Nat}{s:VS} (h:s.Ok N):s.r.length<=N:=Jt h.nodup (fun n hn=>(h.res n hn).1)
end Go.Ev
namespace Go.Ev
attribute [local go_sem] evAppend evBin AV.cells strOf
section
attribute [local go_sem] An As bndO bnd evEq eqCells not_false_eq_true not_true_eq_false toList_some Array.size_empty length_append map_append tySzE head?_drop mul_one Ac Aj Aa Ad Ae AW
abbrev NV (n:Nat):AV:=I (n:Int)
theorem Qb (l:List Nat):AV.plainL (l.map NV)=true:=by
 induction l with
 | nil=>rfl
 | cons a l ih=>simp[AV.plainL,ih];rfl
theorem BF (l:List Bool):AV.plainL (l.map AV.bool)=true:=by
 induction l with
 | nil=>rfl
 | cons a l ih=>simp[AV.plainL,ih];rfl
theorem GV {α:Type} (K:List α) (x:α):(K++[x])[K.length]?=some x:=by simp
theorem O1 {H:List MB}{i n:Nat}{rs:List Nat}{c:Nat}{t:Bool} (hi:getRow H i=some (1,rs.map NV,0)) (hn:rs.length=n) (hr:n+1<=4000000000) :
  evAppend Pg H 22 22 (.ms i 1 n 0 n) (.sl t [NV c])=some (.ms i 1 (n+1) 0 (n+1),H.set i (.row 1 ((rs++[c]).map NV) 0)):=by
 have hs:srcElems Pg H 3 (.sl t [NV c])=some [NV c]:=rfl;rw[Ag (e:=3) (by kernel_rfl) (by kernel_rfl) (k:=1) (by kernel_rfl) (by_:=8) (by kernel_rfl) (ze:=I 0) (by kernel_rfl) rfl (by omega) hs rfl hi (by rw[length_map];exact hn) (Nat.zero_le _) (AW (by simpa using hr) (by omega))];rw[map_append];rfl
theorem FX {t:Bool}{l:List AV} (h:AV.plainL l=true) (H:List MB):fz (.sl t l) H=some (.sl false l,H):=by
 simp only[fz,fzA,BH _ _ _ h]
end
section
attribute [local go_sem] An As bndO bnd evEq eqCells not_false_eq_true not_true_eq_false toList_some Array.size_empty length_append map_append tySzE head?_drop mul_one Ac Aj Aa Ad Ae AW
abbrev kB8 (n:Int):AV:=.int .u8 n
theorem EP (l:List Int):AV.plainL (l.map kB8)=true:=by
 induction l with
 | nil=>rfl
 | cons a l ih=>simp[AV.plainL,ih];rfl
def keyI (l:List Nat):List Int:=l.flatMap fun n=>[((n / 256 % 256:Nat):Int),((n % 256:Nat):Int)]
def keyS (l:List Nat):ByteArray:=strB (keyI l)
theorem I7 (l:List Int):bytesOf (l.map kB8)=some l:=by
 induction l with
 | nil=>rfl
 | cons a l ih=>simp only[map_cons,bytesOf,if_true,ih,Option.map_some]
theorem Pd (l:List Nat) (n:Nat):keyI (l++[n])=keyI l++[((n / 256 % 256:Nat):Int),((n % 256:Nat):Int)]:=by simp[keyI]
theorem MA (l:List Nat):(keyI l).length=2*l.length:=by
 induction l with
 | nil=>rfl
 | cons a l ih=>simp only[keyI,List.flatMap_cons,length_append,length_cons,List.length_nil]at ih |-;omega
theorem shr8 (n:Nat):evShift .shr .i64 n 8=some (NV (n / 256)):=by
 simp only[evShift];simp;rw[Int.fdiv_eq_ediv_of_nonneg _ (by decide)];rfl
theorem Sb (n:Nat):IntKind.u8.wrap n=((n % 256:Nat):Int):=by simp[IntKind.wrap,IntKind.signed,IntKind.bits]
def afterL (ins:List Ins) (l:List Nat) (x:Int):List Nat:=l.flatMap fun n=>match ins[n]? with
 | some i=>if i.op=1/\hasSpan i.set x=true then [n+1] else []
 | none=>[]
end
section
attribute [local go_sem] An As bndO bnd evEq eqCells not_false_eq_true not_true_eq_false toList_some Array.size_empty length_append map_append tySzE head?_drop mul_one Ac Aj Aa Ad Ae AW
structure CS where
 L:List (List Nat)
 made:Nat
 emptied:Nat
structure Lay2 where
 st:Nat->Option (List Nat×Nat)
 nx:Nat->Option (List Nat)
def Lay2.le (a b:Lay2):Prop:=(∀ i x,a.st i=some x->b.st i=some x)/\(∀ i x,a.nx i=some x->b.nx i=some x)
abbrev stAV (b:Bool) (l:List Nat) (m:AV) (f:Nat):AV:=.agg [.sl b (l.map NV),m,NV f]
abbrev dfaAV (ins:List Ins) (first:List Nat) (size:Nat) (C:Nat) (c:CS):AV:=.agg [.sl false (ins.map insAV),.sl false (first.map NV),NV size,.mpr C,NV c.made,NV c.emptied]
structure DI (ins:List Ins) (first:List Nat) (size:Nat) (P:Nat->Prop) (D C:Nat) (a:Lay2) (c:CS) (H:List MB):Prop where
 d:H[D]?=some (.row 6 [dfaAV ins first size C c] 0)
 lo:(∀ i,P i->i<H.length)/\(¬ P D/\¬ P C)/\(∀ i x,a.st i=some x->¬ P i)/\(∀ i x,a.nx i=some x->¬ P i)
 cache:∃ es:List (AV×AV),H[C]?=some (.mp .str es)/\es.length=c.L.length/\∀(i:Nat) (l:List Nat),c.L[i]?=some l->l≠[]/\(∀ n∈l,n<65536)/\∃ t,es[i]?=some (AV.str (keyS l),AV.rf t 1 0 0)/\a.st t=some (l,c.emptied)
 st:∀ t l f,a.st t=some (l,f)->∃ b m,H[t]?=some (.row 3 [stAV b l m f] 0)/\(∀ n∈l,n<ins.length)/\l.length<=ins.length/\f<=c.emptied/\(l≠[]->f=c.emptied->l∈c.L)/\(l≠[]->b=false/\∃ q,m=.mpr q/\a.nx q=some l)
 nx:∀ q l,a.nx q=some l->∃ es,H[q]?=some (.mp (.int .i64) es)/\∀ k v,(k,v)∈es->∃ x t f,k=I x/\v=.rf t 1 0 0/\a.st t=some (stateL ins (afterL ins l x),f)
 small:c.made<=4000000000000/\c.emptied<=c.made/\c.L.length<=size/\1<=size/\size<=1024
theorem Nj {x v:AV}{es:List (AV×AV)} (h:findMp x es=some v):∃ k,(k,v)∈es/\AV.beq k x=true:=by
 induction es with
 | nil=>cases h
 | cons p es ih=>
   obtain⟨k,u⟩:=p;simp only[findMp]at h;split at h
   ·rename_i hb;cases h;exact⟨k,.head _,hb⟩
   ·obtain⟨k',h1,h2⟩:=ih h;exact⟨k',.tail _ h1,h2⟩
theorem HX {k:AV}{b:ByteArray}:AV.beq k (.str b)=true↔k=.str b:=by
 cases k<;>simp[AV.beq]
theorem Uw {k:AV}{b:Int}:AV.beq k (I b)=true↔k=I b:=by
 cases k<;>simp[AV.beq]
theorem L5:∀ {a b:List Int},(∀ x∈a,0<=x/\x<256)->(∀ x∈b,0<=x/\x<256)->a.map (fun n=>UInt8.ofNat n.toNat)=b.map (fun n=>UInt8.ofNat n.toNat)->a=b
 | [],[],_,_,_=>rfl
 | [],_::_,_,_,h=>by simp at h
 | _::_,[],_,_,h=>by simp at h
 | x::a,y::b,ha,hb,h=>by
   simp only[map_cons,List.cons.injEq]at h;have hx:=ha x (.head _);have hy:=hb y (.head _);have h1:x=y:=by
    have:=congrArg UInt8.toNat h.1;simp at this;omega
   rw[h1,L5 (fun z hz=>ha z (.tail _ hz)) (fun z hz=>hb z (.tail _ hz)) h.2]
theorem Lc {a b:List Int} (ha:∀ x∈a,0<=x/\x<256) (hb:∀ x∈b,0<=x/\x<256) (h:strB a=strB b):a=b:=by
 simp only[strB,ByteArray.mk.injEq,Array.mk.injEq]at h;exact L5 ha hb (by simpa using h)
theorem IM (l:List Nat):∀ x∈keyI l,0<=x/\x<256:=by
 intro x hx;simp only[keyI,List.mem_flatMap,mem_cons,List.not_mem_nil,or_false]at hx;obtain⟨n,_,h|h⟩:=hx<;>omega
theorem MC:∀ {a b:List Nat},(∀ n∈a,n<65536)->(∀ n∈b,n<65536)->keyI a=keyI b->a=b
 | [],[],_,_,_=>rfl
 | [],_::_,_,_,h=>by simp[keyI]at h
 | _::_,[],_,_,h=>by simp[keyI]at h
 | x::a,y::b,ha,hb,h=>by
   simp only[keyI,List.flatMap_cons,List.cons_append,List.nil_append,List.cons.injEq]at h;have hx:=ha x (.head _);have hy:=hb y (.head _);have h1:x=y:=by omega
   rw[h1,MC (fun z hz=>ha z (.tail _ hz)) (fun z hz=>hb z (.tail _ hz)) h.2.2]
theorem L9 {a b:List Nat} (ha:∀ n∈a,n<65536) (hb:∀ n∈b,n<65536) (h:keyS a=keyS b):a=b:=
 MC ha hb (Lc (IM a) (IM b) h)
def own2 (H:List MB) (D C:Nat) (x y:MB) (K:List MB):List MB:=(H.set D x).set C y++K
theorem S5 {H:List MB}{D C:Nat} (hD:D<H.length) (hC:C<H.length) (hn:D≠C) (x y:MB) (K:List MB):(own2 H D C x y K)[D]?=some x:=by
 unfold own2;rw[getElem?_append_left (by simpa using hD),getElem?_set_ne (Ne.symm hn),getElem?_set_self hD]
theorem S6 {H:List MB}{D C:Nat} (hD:D<H.length) (hC:C<H.length) (hn:D≠C) (x y:MB) (K:List MB):(own2 H D C x y K)[C]?=some y:=by
 unfold own2;rw[getElem?_append_left (by simpa using hC),getElem?_set_self (by simpa using hC)]
section
variable {H:List MB}{D C:Nat} (x y v:MB) (K:List MB)
theorem Qd:(own2 H D C x y K).length=H.length+K.length:=by simp[own2]
theorem OL {i:Nat} (h1:i≠D) (h2:i≠C) (hi:i<H.length):(own2 H D C x y K)[i]?=H[i]?:=by
 unfold own2;rw[getElem?_append_left (by simpa using hi),getElem?_set_ne (Ne.symm h2),getElem?_set_ne (Ne.symm h1)]
theorem Lr {k:Nat}:(own2 H D C x y K)[H.length+k]?=K[k]?:=by
 unfold own2;rw[List.getElem?_append_right (by simp)];congr 1;simp
end
section
variable {ins:List Ins}{first:List Nat}{size:Nat}{P:Nat->Prop}{D C:Nat}{a:Lay2}{c:CS}{H:List MB}
theorem DI.find (h:DI ins first size P D C a c H) {l:List Nat} (hl:∀ n∈l,n<65536) {es:List (AV×AV)} (he:H[C]?=some (.mp .str es)) :
  (l∈c.L/\∃ t,findMp (.str (keyS l)) es=some (.rf t 1 0 0)/\a.st t=some (l,c.emptied))∨(l ∉ c.L/\findMp (.str (keyS l)) es=none):=by
 obtain⟨es',e1,e2,e3⟩:=h.cache;rw[he]at e1;cases e1;cases hf:findMp (.str (keyS l)) es with
 | some v=>
   obtain⟨k,m1,m2⟩:=Nj hf;rw[HX]at m2;subst m2;obtain⟨i,hi,hg⟩:=List.getElem_of_mem m1;obtain⟨l',hl'⟩:∃ l',c.L[i]?=some l':=⟨_,zga (by omega)⟩;obtain⟨b1,b2,t,b3,b4⟩:=e3 i l' hl';rw[zga hi,hg]at b3;simp only[Option.some.injEq,Prod.mk.injEq,AV.str.injEq]at b3;obtain⟨b5,rfl⟩:=b3;have:=L9 hl b2 b5;subst this;exact .inl ⟨zgc hl',t,rfl,b4⟩
 | none=>
   refine .inr ⟨fun hm=>?_,rfl⟩;obtain⟨i,hi,hg⟩:=List.getElem_of_mem hm;obtain⟨_,_,t,b3,_⟩:=e3 i l (by rw[<- hg];exact zga hi);have hne:∀ {es:List (AV×AV)}{i:Nat}{k v:AV},es[i]?=some (k,v)->AV.beq k k=true->findMp k es≠none:=by
    intro es
    induction es with
    | nil=>intro i k v h;simp at h
    | cons p es ih=>
      intro i k v h hb;obtain⟨k',u'⟩:=p;simp only[findMp];split
      ·simp
      ·cases i with
       | zero=>simp at h;rename_i hx;rw[h.1]at hx;exact absurd hb hx
       | succ i=>exact ih (by simpa using h) hb
   exact hne b3 (HX.2 rfl) hf
end
end
structure DA where
 n:Nat
 m:Nat
 nx:Nat->Nat->Nat
 ac:Nat->Bool
 cl:Int->Nat
def DA.run (A:DA):Nat->List Int->Nat
 | s,[]=>s
 | s,x::t=>A.run (A.nx s (A.cl x)) t
theorem DA.run_app (A:DA):∀(t u:List Int) (s:Nat),A.run s (t++u)=A.run (A.run s t) u
 | [],_,_=>rfl
 | x::t,u,s=>DA.run_app A t u _
abbrev Sy (top x:Int):Prop:=0<=x/\x<=top
abbrev Tx (top:Int) (t:List Int):Prop:=∀ x∈t,Sy top x
structure DA.Ok (A:DA) (top:Int):Prop where
 pos:0<A.n
 lt:∀ s c,s<A.n->c<A.m->A.nx s c<A.n
 cllt:∀ x,Sy top x->A.cl x<A.m
 surj:∀ c,c<A.m->∃ x,Sy top x/\A.cl x=c
theorem DA.Ok.run_lt {A:DA}{top:Int} (h:A.Ok top):∀(t:List Int) (s:Nat),Tx top t->s<A.n->A.run s t<A.n
 | [],s,_,hs=>hs
 | x::t,s,ht,hs=>h.run_lt t _ (fun y hy=>ht y (by simp[hy])) (h.lt _ _ hs (h.cllt x (ht x (by simp))))
def DA.Same (A B:DA) (top:Int):Prop:=∀ t,Tx top t->A.ac (A.run 0 t)=B.ac (B.run 0 t)
def DA.Dist (A:DA) (top:Int):Prop:=∀ s t,s<A.n->t<A.n->s≠t->∃ w,Tx top w/\A.ac (A.run s w)≠A.ac (A.run t w)
def Before (s' c' s c:Nat):Prop:=s'<s∨s' = s/\c'<c
structure DA.Min (A:DA) (top:Int):Prop where
 ok:A.Ok top
 reach:∀ s,0<s->s<A.n->∃ s' c',s'<s/\c'<A.m/\A.nx s' c' = s
 grow:∀ s c,s<A.n->c<A.m->∀ u,0<u->u<A.nx s c->∃ s' c',s'<A.n/\c'<A.m/\Before s' c' s c/\A.nx s' c' = u
 dist:A.Dist top
 cdist:∀ c d,c<A.m->d<A.m->c≠d->∃ s,s<A.n/\A.nx s c≠A.nx s d
 order:∀ c,c<A.m->∃ x,Sy top x/\A.cl x=c/\∀ y,Sy top y->c<A.cl y->x<y
theorem Cr {top:Int}{t u:List Int} (h:Tx top t) (h2:Tx top u):Tx top (t++u):=fun x hx=>by
 rcases List.mem_append.1 hx with h3|h3
 ·exact h x h3
 ·exact h2 x h3
theorem DQ {top:Int}:Tx top []:=fun x hx=>by cases hx
theorem M7 {top x:Int} (h:Sy top x):Tx top [x]:=fun y hy=>by simp at hy;subst hy;exact h
theorem DA.Min.text {A:DA}{top:Int} (h:A.Min top):∀ k s,s<k->s<A.n->∃ u,Tx top u/\A.run 0 u=s
 | 0,s,h1,_=>absurd h1 (by omega)
 | k+1,s,h1,h2=>by
   rcases Nat.eq_zero_or_pos s with h0|h0
   ·subst h0;exact⟨[],DQ,rfl⟩
   ·obtain⟨s',c',a1,a2,a3⟩:=h.reach s h0 h2;obtain⟨u,b1,b2⟩:=h.text k s' (by omega) (by omega);obtain⟨x,d1,d2⟩:=h.ok.surj c' a2;refine⟨u++[x],Cr b1 (M7 d1),?_⟩;rw[DA.run_app,b2];simp only[DA.run,d2,a3]
def Rel (A B:DA) (top:Int) (s t:Nat):Prop:=∃ u,Tx top u/\A.run 0 u=s/\B.run 0 u=t
theorem Rel.symm {A B:DA}{top:Int}{s t:Nat} (h:Rel A B top s t):Rel B A top t s:=by
 obtain⟨u,a,b,c⟩:=h;exact⟨u,a,c,b⟩
theorem Rel.fn {A B:DA}{top:Int} (hs:A.Same B top) (hB:B.Ok top) (hd:B.Dist top) {s t t':Nat} (h:Rel A B top s t) (h':Rel A B top s t'):t=t':=by
 obtain⟨u,a1,a2,a3⟩:=h;obtain⟨v,b1,b2,b3⟩:=h';by_cases e:t=t'
 ·exact e
 ·exfalso;have ht:t<B.n:=by rw[<- a3];exact hB.run_lt u 0 a1 hB.pos
  have ht':t'<B.n:=by rw[<- b3];exact hB.run_lt v 0 b1 hB.pos
  obtain⟨w,c1,c2⟩:=hd t t' ht ht' e;have e1:=hs (u++w) (Cr a1 c1);have e2:=hs (v++w) (Cr b1 c1);rw[DA.run_app,DA.run_app,a2,a3]at e1;rw[DA.run_app,DA.run_app,b2,b3]at e2;exact c2 (e1.symm.trans e2)
theorem Rel.step {A B:DA}{top:Int}{s t:Nat} (h:Rel A B top s t) {x:Int} (hx:Sy top x):Rel A B top (A.nx s (A.cl x)) (B.nx t (B.cl x)):=by
 obtain⟨u,a1,a2,a3⟩:=h;refine⟨u++[x],Cr a1 (M7 hx),?_,?_⟩
 ·rw[DA.run_app,a2];rfl
 ·rw[DA.run_app,a3];rfl
theorem DA.Same.symm {A B:DA}{top:Int} (h:A.Same B top):B.Same A top:=fun t ht=>(h t ht).symm
theorem DA.Same.trans {A B C:DA}{top:Int} (h:A.Same B top) (g:B.Same C top):A.Same C top:=fun t ht=>(h t ht).trans (g t ht)
theorem Ow {A B:DA}{top:Int} (hs:A.Same B top) (hA:A.Min top) (hB:B.Min top) {x y:Int} (hx:Sy top x) (hy:Sy top y) (h:A.cl x=A.cl y):B.cl x=B.cl y:=by
 by_cases e:B.cl x=B.cl y
 ·exact e
 ·exfalso;obtain⟨t,h1,h2⟩:=hB.cdist _ _ (hB.ok.cllt x hx) (hB.ok.cllt y hy) e;obtain⟨u,a1,a2⟩:=hB.text (t+1) t (by omega) h1;have r:Rel A B top (A.run 0 u) t:=⟨u,a1,rfl,a2⟩;have r1:=r.step hx;have r2:=r.step hy;rw[h]at r1;exact h2 (r1.fn hs hB.ok hB.dist r2)
theorem RL {A B:DA}{top:Int} (hs:A.Same B top) (hA:A.Min top) (hB:B.Min top):∀ k,∀ j,j<k->∀ x,Sy top x->(A.cl x=j↔B.cl x=j)
 | 0,j,h,_,_=>absurd h (by omega)
 | k+1,j,hj,x,hx=>by
   have ih:=RL hs hA hB k;by_cases hjk:j<k
   ·exact ih j hjk x hx
   obtain rfl:j=k:=by omega
   have side:∀ {A B:DA},A.Same B top->A.Min top->B.Min top->(∀ j',j'<j->∀ x,Sy top x->(A.cl x=j'↔B.cl x=j'))->A.cl x=j->B.cl x=j:=by
    intro A B hs hA hB ih h;rcases Nat.lt_trichotomy (B.cl x) j with h1|h1|h1
    ·have:=(ih _ h1 x hx).2 rfl;omega
    ·exact h1
    ·exfalso;obtain⟨y,y1,y2,y3⟩:=hB.order j (by have:=hB.ok.cllt x hx;omega);have hne:A.cl y≠j:=fun e=>by
      have:=Ow hs hA hB y1 hx (e.trans h.symm);omega
     have hlt:¬ A.cl y<j:=fun e=>by
      have:=(ih _ e y y1).1 rfl;omega
     obtain⟨z,z1,z2,z3⟩:=hA.order j (by have:=hA.ok.cllt y y1;omega);have h4:=z3 y y1 (by omega);have h5:=Ow hs hA hB z1 hx (z2.trans h.symm);have h6:=y3 z z1 (by omega);omega
   exact⟨side hs hA hB ih,side hs.symm hB hA (fun j' hj' x hx=>(ih j' hj' x hx).symm)⟩
theorem IF {A B:DA}{top:Int} (hs:A.Same B top) (hA:A.Min top) (hB:B.Min top) {x:Int} (hx:Sy top x):A.cl x=B.cl x:=
 ((RL hs hA hB (A.cl x+1) (A.cl x) (by omega) x hx).1 rfl).symm
theorem Sh {A B:DA}{top:Int} (hs:A.Same B top) (hA:A.Min top) (hB:B.Min top):A.m=B.m:=by
 rcases Nat.lt_trichotomy A.m B.m with h|h|h
 ·obtain⟨x,h1,h2⟩:=hB.ok.surj A.m h;have:=IF hs hA hB h1;have:=hA.ok.cllt x h1;omega
 ·exact h
 ·obtain⟨x,h1,h2⟩:=hA.ok.surj B.m h;have:=IF hs hA hB h1;have:=hB.ok.cllt x h1;omega
theorem NQ {A B:DA}{top:Int} (hs:A.Same B top) (hA:A.Min top) (hB:B.Min top):∀ p s c,s*A.m+c<p->s<A.n->c<A.m->A.nx s c=B.nx s c/\Rel A B top (A.nx s c) (A.nx s c)/\Rel A B top s s
 | 0,s,c,h,_,_=>absurd h (by omega)
 | p+1,s,c,hp,hsn,hc=>by
   have ih:=NQ hs hA hB p;have hm:=Sh hs hA hB;have before:∀ s' c',s'<A.n->c'<A.m->Before s' c' s c->A.nx s' c' = B.nx s' c'/\Rel A B top (A.nx s' c') (A.nx s' c'):=by
    intro s' c' h1 h2 h3;have:s'*A.m+c'<p:=by
     rcases h3 with h3|⟨rfl,h3⟩
     ·have:(s' + 1)*A.m<=s*A.m:=Nat.mul_le_mul_right _ h3;rw[Nat.add_mul,Nat.one_mul]at this;omega
     ·omega
    exact⟨(ih s' c' this h1 h2).1,(ih s' c' this h1 h2).2.1⟩
   have r0:Rel A B top 0 0:=⟨[],DQ,rfl,rfl⟩;have rs:Rel A B top s s:=by
    rcases Nat.eq_zero_or_pos s with h0|h0
    ·subst h0;exact r0
    ·obtain⟨s',c',a1,a2,a3⟩:=hA.reach s h0 hsn;have:=(before s' c' (by omega) a2 (.inl a1)).2
     rwa [a3]at this
   obtain⟨x,x1,x2⟩:=hA.ok.surj c hc;have hst:=rs.step x1;have hcl:=IF hs hA hB x1;rw[<- hcl,x2]at hst;have hsB:s<B.n:=by
    obtain⟨u,u1,_,u3⟩:=rs;rw[<- u3];exact hB.ok.run_lt u 0 u1 hB.ok.pos
   refine⟨?_,?_,rs⟩
   all_goals
    rcases Nat.lt_trichotomy (A.nx s c) (B.nx s c) with h|h|h
    ·have raa:Rel A B top (A.nx s c) (A.nx s c):=by
      rcases Nat.eq_zero_or_pos (A.nx s c) with h0|h0
      ·rw[h0];exact r0
      ·obtain⟨s',c',a1,a2,a3,a4⟩:=hB.grow s c hsB (by omega) _ h0 h;have hs':s'<A.n:=by rcases a3 with a3|⟨rfl,_⟩<;>omega
       obtain⟨b1,b2⟩:=before s' c' hs' (by omega) a3;rw[b1,a4]at b2;exact b2
     have:=raa.fn hs hB.ok hB.dist hst;omega
    ·first
     | exact h
     | (rw[<- h]at hst;exact hst)
    ·have rbb:Rel A B top (B.nx s c) (B.nx s c):=by
      rcases Nat.eq_zero_or_pos (B.nx s c) with h0|h0
      ·rw[h0];exact r0
      ·obtain⟨s',c',a1,a2,a3,a4⟩:=hA.grow s c hsn hc _ h0 h;obtain⟨b1,b2⟩:=before s' c' a1 a2 a3;rw[a4]at b2;exact b2
     have:=rbb.symm.fn hs.symm hA.ok hA.dist hst.symm;omega
theorem OW {A B:DA}{top:Int} (hs:A.Same B top) (hA:A.Min top) (hB:B.Min top) {s:Nat} (h:s<A.n):Rel A B top s s:=by
 rcases Nat.eq_zero_or_pos s with h0|h0
 ·subst h0;exact⟨[],DQ,rfl,rfl⟩
 ·obtain⟨s',c',a1,a2,a3⟩:=hA.reach s h0 h;have:=(NQ hs hA hB _ s' c' (Nat.lt_succ_self _) (by omega) a2).2.1
  rwa [a3]at this
theorem UE {A B:DA}{top:Int} (hs:A.Same B top) (hA:A.Min top) (hB:B.Min top):A.n=B.n:=by
 have side:∀ {A B:DA},A.Same B top->A.Min top->B.Min top->A.n<=B.n:=by
  intro A B hs hA hB;have h:=hA.ok.pos;obtain⟨u,u1,_,u3⟩:=OW hs hA hB (s:=A.n-1) (by omega);have:=hB.ok.run_lt u 0 u1 hB.ok.pos;omega
 have h1:=side hs hA hB;have h2:=side hs.symm hB hA;omega
theorem S9 {A B:DA}{top:Int} (hs:A.Same B top) (hA:A.Min top) (hB:B.Min top) {s:Nat} (h:s<A.n):A.ac s=B.ac s:=by
 obtain⟨u,u1,u2,u3⟩:=OW hs hA hB h;have:=hs u u1
 rwa [u2,u3]at this
section
variable {α:Type}
def MetAt (f:α->List α) (l:List α) (u i c:Nat):Prop:=∃ y z,l[i]?=some y/\(f y)[c]?=some z/\l[u]?=some z
structure BInv (f:α->List α) (l:List α) (i c:Nat):Prop where
 nodup:l.Nodup
 met:∀ u,0<u->u<l.length->∃ i' c',Before i' c' i c/\i'<u/\MetAt f l u i' c'
 grow:∀ i' c',Before i' c' i c->∀ y z,l[i']?=some y->(f y)[c']?=some z->∃ v,l[v]?=some z/\∀ u,0<u->u<v->∃ i'' c'',Before i'' c'' i' c'/\MetAt f l u i'' c''
theorem Before.trans {a b c d e g:Nat} (h:Before a b c d) (g':Before c d e g):Before a b e g:=by
 unfold Before at *;omega
theorem getElem?_ne_none {l:List α}{i:Nat}{y:α} (h:l[i]?=some y):i<l.length:=(zgb.1 h).1
theorem MetAt.more {f:α->List α}{l m:List α}{u i c:Nat} (h:MetAt f l u i c):MetAt f (l++m) u i c:=by
 obtain⟨y,z,h1,h2,h3⟩:=h;exact⟨y,z,by rw[getElem?_append_left (getElem?_ne_none h1)];exact h1,h2,by rw[getElem?_append_left (getElem?_ne_none h3)];exact h3⟩
theorem BInv.start (f:α->List α) (x:α):BInv f [x] 0 0:=
 ⟨by simp,fun u h1 h2=>by simp at h2;omega,fun i' c' hb=>by unfold Before at hb;omega⟩
end
section
variable {α:Type} [DecidableEq α]
def addAll (l:List α):List α->List α
 | []=>l
 | x::xs=>addAll (if x∈l then l else l++[x]) xs
def bfs (f:α->List α):Nat->Nat->List α->List α
 | 0,_,l=>l
 | k+1,i,l=>match l[i]? with
   | none=>l
   | some x=>bfs f k (i+1) (addAll l (f x))
theorem BC:∀(xs l:List α),∃ m,addAll l xs=l++m
 | [],l=>⟨[],by simp[addAll]⟩
 | x::xs,l=>by
   obtain⟨m,h⟩:=BC xs (if x∈l then l else l++[x]);rw[addAll,h];split
   ·exact⟨m,rfl⟩
   ·exact⟨x::m,by simp⟩
theorem A8:∀(xs l:List α),l.Nodup->(addAll l xs).Nodup
 | [],l,h=>h
 | x::xs,l,h=>by
   rw[addAll];split
   ·exact A8 xs l h
   ·rename_i hx;refine A8 xs _ ?_;rw[List.nodup_append];refine⟨h,by simp,fun a ha b hb=>?_⟩;simp at hb;subst hb;intro e;subst e;exact hx ha
theorem Fg (xs l:List α):l.length<=(addAll l xs).length:=by
 obtain⟨m,e⟩:=BC xs l;rw[e];simp
theorem Bh:∀(xs l:List α) (x:α),x∈addAll l xs↔x∈l∨x∈xs
 | [],l,x=>by simp[addAll]
 | y::xs,l,x=>by
   rw[addAll,Bh];split
   ·rename_i h;constructor
    ·rintro(h1|h1)
     ·exact .inl h1
     ·exact .inr (by simp[h1])
    ·rintro(h1|h1)
     ·exact .inl h1
     ·rcases mem_cons.1 h1 with h1|h1
      ·subst h1;exact .inl h
      ·exact .inr h1
   ·simp[or_assoc]
theorem BInv.one {f:α->List α}{l:List α}{i c:Nat}{y z:α} (h:BInv f l i c) (hy:l[i]?=some y) (hz:(f y)[c]?=some z):BInv f (if z∈l then l else l++[z]) i (c+1):=by
 have hi:=getElem?_ne_none hy;split
 ·rename_i hm;refine⟨h.nodup,fun u h1 h2=>?_,fun i' c' hb y' z' hy' hz'=>?_⟩
  ·obtain⟨i',c',a1,a2,a3⟩:=h.met u h1 h2;exact⟨i',c',by unfold Before at *;omega,a2,a3⟩
  ·by_cases hb':Before i' c' i c
   ·exact h.grow i' c' hb' y' z' hy' hz'
   ·obtain⟨rfl,rfl⟩:i' = i/\c' = c:=by unfold Before at *;omega
    rw[hy]at hy';cases hy';rw[hz]at hz';cases hz';obtain⟨v,hv,e⟩:=List.getElem_of_mem hm;refine⟨v,by rw[zga hv,e],fun u h1 h2=>?_⟩;obtain⟨i'',c'',a1,_,a3⟩:=h.met u h1 (by omega);exact⟨i'',c'',a1,a3⟩
 ·rename_i hm;have gl:∀ j,j<l.length->(l++[z])[j]?=l[j]?:=fun j hj=>getElem?_append_left hj;refine⟨?_,fun u h1 h2=>?_,fun i' c' hb y' z' hy' hz'=>?_⟩
  ·rw[List.nodup_append];refine⟨h.nodup,by simp,fun a ha b hb=>?_⟩;simp at hb;subst hb;intro e;subst e;exact hm ha
  ·by_cases hu:u<l.length
   ·obtain⟨i',c',a1,a2,a3⟩:=h.met u h1 hu;exact⟨i',c',by unfold Before at *;omega,a2,a3.more⟩
   ·simp only[length_append,length_cons,List.length_nil]at h2;obtain rfl:u=l.length:=by omega
    exact⟨i,c,by unfold Before;omega,hi,y,z,by rw[gl i hi];exact hy,hz,by simp⟩
  ·have hi':i'<l.length:=by unfold Before at hb;omega
   rw[gl i' hi']at hy';by_cases hb':Before i' c' i c
   ·obtain⟨v,hv,g⟩:=h.grow i' c' hb' y' z' hy' hz';refine⟨v,by rw[gl v (getElem?_ne_none hv)];exact hv,fun u h1 h2=>?_⟩;obtain⟨i'',c'',a1,a2⟩:=g u h1 h2;exact⟨i'',c'',a1,a2.more⟩
   ·obtain⟨rfl,rfl⟩:i' = i/\c' = c:=by unfold Before at *;omega
    rw[hy]at hy';cases hy';rw[hz]at hz';cases hz';refine⟨l.length,by simp,fun u h1 h2=>?_⟩;obtain⟨i'',c'',a1,_,a3⟩:=h.met u h1 h2;exact⟨i'',c'',a1,a3.more⟩
theorem BInv.row {f:α->List α}{y:α}{i:Nat}:∀(xs l:List α) (c:Nat),BInv f l i c->l[i]?=some y->(f y).drop c=xs->BInv f (addAll l xs) (i+1) 0
 | [],l,c,h,hy,hx=>by
   have hc:(f y).length<=c:=by
    rcases lt_or_ge c (f y).length with h1|h1
    ·have:=congrArg List.length hx;simp at this;omega
    ·exact h1
   refine⟨h.nodup,fun u h1 h2=>?_,fun i' c' hb y' z' hy' hz'=>?_⟩
   ·obtain⟨i',c',a1,a2,a3⟩:=h.met u h1 h2;exact⟨i',c',by unfold Before at *;omega,a2,a3⟩
   ·by_cases hb':Before i' c' i c
    ·exact h.grow i' c' hb' y' z' hy' hz'
    ·exfalso;obtain rfl:i' = i:=by unfold Before at *;omega
     have:c<=c':=by unfold Before at *;omega
     simp only[addAll]at hy';rw[hy]at hy';cases hy';have:=getElem?_ne_none hz';omega
 | z::xs,l,c,h,hy,hx=>by
   have hz:(f y)[c]?=some z:=by
    have:=congrArg (fun l=>l[0]?) hx
    simpa using this
   have hd:(f y).drop (c+1)=xs:=by
    have:=congrArg (List.drop 1) hx
    simpa [Nat.add_comm] using this
   rw[addAll];refine BInv.row xs _ (c+1) (h.one hy hz) ?_ hd;have hi:=getElem?_ne_none hy;split
   ·exact hy
   ·rw[getElem?_append_left hi];exact hy
theorem LH (f:α->List α):∀(k i:Nat) (l:List α),BInv f l i 0->i<=l.length->(bfs f k i l).length<i+k->BInv f (bfs f k i l) (bfs f k i l).length 0/\∃ m,bfs f k i l=l++m
 | 0,i,l,h,hi,hk=>by simp only[bfs]at hk;omega
 | k+1,i,l,h,hi,hk=>by
   rw[bfs]at hk |-;cases hx:l[i]? with
   | none=>
     have:i=l.length:=by have:=List.getElem?_eq_none_iff.1 hx;omega
     subst this;exact⟨h,[],by simp⟩
   | some x=>
     rw[hx]at hk;simp only at hk |-;have h1:=h.row (f x) l 0 hx (by simp);have hi':=getElem?_ne_none hx;obtain⟨a,m,b⟩:=LH f k (i+1) _ h1 (by have:=Fg (f x) l;omega) (by omega);obtain⟨m',e⟩:=BC (f x) l;exact⟨a,m'++m,by rw[b,e,append_assoc]⟩
end
def DA.Eqv (A:DA) (top:Int) (s t:Nat):Prop:=∀ w,Tx top w->A.ac (A.run s w)=A.ac (A.run t w)
theorem DA.Eqv.step {A:DA}{top:Int}{s t:Nat} (h:A.Eqv top s t) {x:Int} (hx:Sy top x):A.Eqv top (A.nx s (A.cl x)) (A.nx t (A.cl x)):=fun w hw=>
 h (x::w) (fun y hy=>by
   rcases mem_cons.1 hy with h|h
   ·subst h;exact hx
   ·exact hw y h)
theorem DA.Eqv.cls {A:DA}{top:Int}{s t:Nat} (h:A.Eqv top s t) (ho:A.Ok top) {c:Nat} (hc:c<A.m):A.Eqv top (A.nx s c) (A.nx t c):=by
 obtain⟨x,h1,h2⟩:=ho.surj c hc;have:=h.step h1
 rwa [h2]at this
def DA.Ord (A:DA) (top:Int):Prop:=∀ c,c<A.m->∃ x,Sy top x/\A.cl x=c/\∀ y,Sy top y->c<A.cl y->x<y
structure Quo (A:DA) (top:Int) (L chosen kept:List Nat) (q kinds:Nat->Nat):Prop where
 ok:A.Ok top
 ord:A.Ord top
 inv:BInv (fun s=>(List.range A.m).map (A.nx s)) L L.length 0
 l0:L[0]?=some 0
 qeq:∀(s t:Nat),s∈L->t∈L->(q s=q t↔A.Eqv top s t)
 qfirst:∀(j s:Nat),L[j]?=some s->∀ u,u<q s->∃ i t:Nat,i<j/\L[i]?=some t/\q t=u
 ch:∀(k s:Nat),chosen[k]?=some s->∃ j:Nat,L[j]?=some s/\q s=k/\∀(i t:Nat),i<j->L[i]?=some t->q t≠k
 chall:∀(s:Nat),s∈L->q s<chosen.length
 keq:∀(c d:Nat),c<A.m->d<A.m->(kinds c=kinds d↔∀(s:Nat),s∈chosen->q (A.nx s c)=q (A.nx s d))
 kfirst:∀(k c:Nat),kept[k]?=some c->c<A.m/\kinds c=k/\∀ d,d<c->kinds d<k
 keptall:∀ c,c<A.m->kinds c<kept.length
def quo (A:DA) (chosen kept:List Nat) (q kinds:Nat->Nat):DA:=
 ⟨chosen.length,kept.length,fun k j=>q (A.nx (chosen[k]?.getD 0) (kept[j]?.getD 0)),fun k=>A.ac (chosen[k]?.getD 0),fun x=>kinds (A.cl x)⟩
section
variable {A:DA}{top:Int}{L chosen kept:List Nat}{q kinds:Nat->Nat}
theorem Quo.step (h:Quo A top L chosen kept q kinds) {s c:Nat} (hs:s∈L) (hc:c<A.m):A.nx s c∈L:=by
 obtain⟨i,hi,e⟩:=List.getElem_of_mem hs;have hz:((List.range A.m).map (A.nx s))[c]?=some (A.nx s c):=by simp[hc]
 obtain⟨v,hv,_⟩:=h.inv.grow i c (.inl hi) s (A.nx s c) (by rw[zga hi,e]) hz;exact zgc hv
theorem Quo.zero (h:Quo A top L chosen kept q kinds):0∈L/\q 0=0:=by
 refine⟨zgc h.l0,?_⟩;rcases Nat.eq_zero_or_pos (q 0) with h0|h0
 ·exact h0
 ·obtain⟨i,t,h1,_⟩:=h.qfirst 0 0 h.l0 0 h0;omega
theorem Quo.get (h:Quo A top L chosen kept q kinds) {k:Nat} (hk:k<chosen.length):∃ s j:Nat,chosen[k]?=some s/\s∈chosen/\s∈L/\L[j]?=some s/\q s=k/\∀(i t:Nat),i<j->L[i]?=some t->q t<k:=by
 have e:chosen[k]?=some chosen[k]:=zga hk;obtain⟨j,h1,h2,h3⟩:=h.ch k _ e;refine⟨_,j,e,getElem_mem hk,zgc h1,h1,h2,fun i t hi ht=>?_⟩;rcases Nat.lt_trichotomy (q t) k with h4|h4|h4
 ·exact h4
 ·exact absurd h4 (h3 i t hi ht)
 ·obtain⟨i',t',g1,g2,g3⟩:=h.qfirst i t ht k h4;exact absurd g3 (h3 i' t' (by omega) g2)
theorem Quo.kget (h:Quo A top L chosen kept q kinds) {k:Nat} (hk:k<kept.length):∃ c:Nat,kept[k]?=some c/\c<A.m/\kinds c=k/\∀ d,d<c->kinds d<k:=by
 have e:kept[k]?=some kept[k]:=zga hk;exact⟨_,e,h.kfirst k _ e⟩
theorem Quo.nx (h:Quo A top L chosen kept q kinds) {s c:Nat} (hs:s∈L) (hc:c<A.m):(quo A chosen kept q kinds).nx (q s) (kinds c)=q (A.nx s c):=by
 obtain⟨s',j,a1,a2,a3,_,a4,_⟩:=h.get (h.chall s hs);obtain⟨c',b1,b2,b3,_⟩:=h.kget (h.keptall c hc);show q (A.nx (chosen[q s]?.getD 0) (kept[kinds c]?.getD 0))=q (A.nx s c);rw[a1,b1];simp only[Option.getD_some];have e1:=(h.keq c' c b2 hc).1 b3 s' a2;rw[e1];exact(h.qeq _ _ (h.step a3 hc) (h.step hs hc)).2 (((h.qeq s' s a3 hs).1 a4).cls h.ok hc)
theorem Quo.run (h:Quo A top L chosen kept q kinds):∀(w:List Int) (s:Nat),Tx top w->s∈L->(quo A chosen kept q kinds).run (q s) w=q (A.run s w)/\A.run s w∈L
 | [],s,_,hs=>⟨rfl,hs⟩
 | x::w,s,hw,hs=>by
   have hx:=h.ok.cllt x (hw x (by simp));obtain⟨e1,e2⟩:=h.run w (A.nx s (A.cl x)) (fun y hy=>hw y (by simp[hy])) (h.step hs hx);refine⟨?_,e2⟩;have:=h.nx hs hx;show (quo A chosen kept q kinds).run ((quo A chosen kept q kinds).nx (q s) (kinds (A.cl x))) w=_;rw[this,e1];rfl
theorem Quo.ac (h:Quo A top L chosen kept q kinds) {s:Nat} (hs:s∈L):(quo A chosen kept q kinds).ac (q s)=A.ac s:=by
 obtain⟨s',j,a1,a2,a3,_,a4,_⟩:=h.get (h.chall s hs);show A.ac (chosen[q s]?.getD 0)=A.ac s;rw[a1];exact(h.qeq s' s a3 hs).1 a4 [] DQ
theorem Quo.same (h:Quo A top L chosen kept q kinds):(quo A chosen kept q kinds).Same A top:=fun t ht=>by
 obtain⟨h1,h2⟩:=h.zero;obtain⟨e1,e2⟩:=h.run t 0 ht h1;rw[h2]at e1;rw[e1,h.ac e2]
theorem Quo.min (h:Quo A top L chosen kept q kinds):(quo A chosen kept q kinds).Min top where
 ok:={
  pos:=by
   obtain⟨h1,h2⟩:=h.zero;have:=h.chall 0 h1;show 0<chosen.length;omega
  lt:=fun k j hk hj=>by
   obtain⟨s,_,a1,_,a3,_⟩:=h.get (show k<chosen.length from hk);obtain⟨c,b1,b2,_⟩:=h.kget (show j<kept.length from hj);show q (A.nx (chosen[k]?.getD 0) (kept[j]?.getD 0))<chosen.length;rw[a1,b1];exact h.chall _ (h.step a3 b2)
  cllt:=fun x hx=>h.keptall _ (h.ok.cllt x hx)
  surj:=fun j hj=>by
   obtain⟨c,b1,b2,b3,_⟩:=h.kget (show j<kept.length from hj);obtain⟨x,x1,x2⟩:=h.ok.surj c b2;exact⟨x,x1,by show kinds (A.cl x)=j;rw[x2,b3]⟩ }
 reach:=fun k h0 hk=>by
  obtain⟨s,j,a1,_,a3,a4,a5,a6⟩:=h.get (show k<chosen.length from hk);have hj:0<j:=by
   rcases Nat.eq_zero_or_pos j with e|e
   ·subst e;rw[h.l0]at a4;cases a4;have:=h.zero.2;omega
   ·exact e
  obtain⟨i',c',b1,b2,y,z,m1,m2,m3⟩:=h.inv.met j hj (getElem?_ne_none a4);rw[a4]at m3;cases m3;have hc':c'<A.m:=by have:=getElem?_ne_none m2;simpa using this
  have e:A.nx y c' = s:=by simpa [hc'] using m2
  have hy:y∈L:=zgc m1;refine⟨q y,kinds c',a6 i' y b2 m1,h.keptall c' hc',?_⟩;rw[h.nx hy hc',e,a5]
 grow:=fun k j hk hj u h0 hu=>by
  obtain⟨s,i,a1,_,a3,a4,a5,a6⟩:=h.get (show k<chosen.length from hk);obtain⟨c,b1,b2,b3,b4⟩:=h.kget (show j<kept.length from hj);have e0:(quo A chosen kept q kinds).nx k j=q (A.nx s c):=by
   have:=h.nx a3 b2
   rwa [a5,b3]at this
  rw[e0]at hu;have hz:((List.range A.m).map (A.nx s))[c]?=some (A.nx s c):=by simp[b2]
  obtain⟨v,hv,g⟩:=h.inv.grow i c (.inl (getElem?_ne_none a4)) s _ a4 hz;obtain⟨iu,t,c1,c2,c3⟩:=h.qfirst v _ hv u hu;have hiu:0<iu:=by
   rcases Nat.eq_zero_or_pos iu with e|e
   ·subst e;rw[h.l0]at c2;cases c2;have:=h.zero.2;omega
   ·exact e
  obtain⟨i'',c'',d1,y,z,m1,m2,m3⟩:=g iu hiu c1;rw[c2]at m3;cases m3;have hc':c''<A.m:=by have:=getElem?_ne_none m2;simpa using this
  have e:A.nx y c'' = t:=by simpa [hc'] using m2
  have hy:y∈L:=zgc m1;refine⟨q y,kinds c'',h.chall y hy,h.keptall c'' hc',?_,?_⟩
  ·rcases d1 with d1|⟨rfl,d1⟩
   ·exact .inl (a6 i'' y d1 m1)
   ·rw[a4]at m1;cases m1;exact .inr ⟨a5,b4 c'' d1⟩
  ·rw[h.nx hy hc',e,c3]
 dist:=fun k l hk hl hkl=>by
  obtain⟨s,_,a1,_,a3,_,a5,_⟩:=h.get (show k<chosen.length from hk);obtain⟨t,_,b1,_,b3,_,b5,_⟩:=h.get (show l<chosen.length from hl);have hne:¬ A.Eqv top s t:=fun e=>hkl (by rw[<- a5,<- b5];exact(h.qeq s t a3 b3).2 e);unfold DA.Eqv at hne;simp only[Classical.not_forall]at hne;obtain⟨w,hw,hne⟩:=hne;refine⟨w,hw,?_⟩;obtain⟨e1,e2⟩:=h.run w s hw a3;obtain⟨e3,e4⟩:=h.run w t hw b3;rw[<- a5,<- b5,e1,e3,h.ac e2,h.ac e4];exact hne
 cdist:=fun j l hj hl hjl=>by
  obtain⟨c,b1,b2,b3,_⟩:=h.kget (show j<kept.length from hj);obtain⟨d,d1,d2,d3,_⟩:=h.kget (show l<kept.length from hl);have hne:¬ ∀ s,s∈chosen->q (A.nx s c)=q (A.nx s d):=fun e=>hjl (by rw[<- b3,<- d3];exact(h.keq c d b2 d2).2 e);simp only[Classical.not_forall]at hne;obtain⟨s,hs,hne⟩:=hne;obtain⟨k,hk,e⟩:=List.getElem_of_mem hs;refine⟨k,hk,?_⟩;show q (A.nx (chosen[k]?.getD 0) (kept[j]?.getD 0))≠q (A.nx (chosen[k]?.getD 0) (kept[l]?.getD 0));rw[zga hk,e,b1,d1];exact hne
 order:=fun j hj=>by
  obtain⟨c,b1,b2,b3,b4⟩:=h.kget (show j<kept.length from hj);obtain⟨x,x1,x2,x3⟩:=h.ord c b2;refine⟨x,x1,by show kinds (A.cl x)=j;rw[x2,b3],fun y hy hlt=>x3 y hy ?_⟩;have hlt:j<kinds (A.cl y):=hlt;rcases Nat.lt_trichotomy (A.cl y) c with e|e|e
  ·have:=b4 _ e;omega
  ·rw[e]at hlt;omega
  ·exact e
end
section
variable {α:Type} [DecidableEq α]
abbrev onces (l:List α):List α:=addAll [] l
def numA (l:List α):List Nat:=l.map fun x=>(onces l).idxOf x
theorem Ao (l:List α) (x:α):x∈onces l↔x∈l:=by simp[onces,Bh]
theorem BP (l:List α):(onces l).Nodup:=A8 l [] (by simp)
theorem Br:∀(xs ys l:List α),addAll l (xs++ys)=addAll (addAll l xs) ys
 | [],_,_=>rfl
 | x::xs,ys,l=>by rw[List.cons_append,addAll,addAll,Br xs ys]
theorem Dy (l:List α) (x:α):onces (l++[x])=if x∈l then onces l else onces l++[x]:=by
 unfold onces;rw[Br,addAll,addAll];have:=Ao l x;by_cases h:x∈l
 ·rw[if_pos (this.2 h),if_pos h]
 ·rw[if_neg (fun e=>h (this.1 e)),if_neg h]
theorem Af (l:List α):(numA l).length=l.length:=by simp[numA]
theorem Al (l:List α) {i:Nat}{x:α} (h:l[i]?=some x):(numA l)[i]?=some ((onces l).idxOf x):=by simp[numA,h]
theorem Jr {l:List α}{x:α} (h:x∈l):(onces l)[(onces l).idxOf x]?=some x:=by
 have h1:=List.idxOf_lt_length_of_mem ((Ao l x).2 h);rw[zga h1];simp
theorem Ki {l:List α}{i k:Nat} (h:(numA l)[i]?=some k):k<(onces l).length:=by
 simp only[numA,getElem?_map,Option.map_eq_some_iff]at h;obtain⟨x,h1,rfl⟩:=h;exact List.idxOf_lt_length_of_mem ((Ao l x).2 (zgc h1))
theorem DB {l:List α}{i j:Nat}{x y:α} (hi:l[i]?=some x) (hj:l[j]?=some y):(onces l).idxOf x=(onces l).idxOf y↔x=y:=by
 constructor
 ·intro h;have h1:=Jr (zgc hi);have h2:=Jr (zgc hj);rw[h]at h1;rw[h1]at h2;exact Option.some.inj h2
 ·intro h;rw[h]
theorem B9 (l:List α) (i:Nat):∃ m,onces l=onces (l.take i)++m:=by
 have h:=Br (l.take i) (l.drop i) ([]:List α);rw[List.take_append_drop]at h;obtain⟨m,e⟩:=BC (l.drop i) (addAll [] (l.take i));exact⟨m,by unfold onces;rw[h,e]⟩
theorem idxOf_append {l m:List α}{x:α} (h:x∈l):(l++m).idxOf x=l.idxOf x:=by
 rw[List.idxOf_append];simp[h]
theorem Eo {l:List α}{i:Nat}{x:α} (h:l[i]?=some x):(onces l).idxOf x=if x∈l.take i then(onces (l.take i)).idxOf x else(onces (l.take i)).length:=by
 have hi:=getElem?_ne_none h;have ht:l.take (i+1)=l.take i++[x]:=by
  rw[List.take_add_one,h];rfl
 obtain⟨m,e⟩:=B9 l (i+1);rw[ht,Dy]at e;split
 ·rename_i hx;rw[if_pos hx]at e;rw[e,idxOf_append ((Ao _ _).2 hx)]
 ·rename_i hx;rw[if_neg hx]at e;have hx':x ∉ onces (l.take i):=fun h=>hx ((Ao _ _).1 h);rw[e,append_assoc,List.idxOf_append,if_neg hx'];simp
theorem Ep {l:List α}{i k:Nat} (h:(numA l)[i]?=some k):∀ u,u<k->∃ j,j<i/\(numA l)[j]?=some u:=by
 intro u hu;simp only[numA,getElem?_map,Option.map_eq_some_iff]at h;obtain⟨x,h1,rfl⟩:=h;rw[Eo h1]at hu;have hlt:u<(onces (l.take i)).length:=by
  split at hu
  ·rename_i hx;have:=List.idxOf_lt_length_of_mem ((Ao _ _).2 hx);omega
  ·exact hu
 have hm:=(Ao (l.take i) _).1 (getElem_mem hlt);obtain⟨j,hj,e⟩:=List.getElem_of_mem hm;have hj':j<i/\j<l.length:=by rw[List.length_take]at hj;omega
 have hlj:l[j]?=some (onces (l.take i))[u]:=by
  rw[zga hj'.2,<- e];simp
 refine⟨j,hj'.1,?_⟩;rw[Al l hlj];obtain⟨m,e2⟩:=B9 l i;rw[e2,idxOf_append (getElem_mem hlt)];congr 1;exact(BP _).idxOf_getElem u hlt
end
def firstsGo:List Nat->Nat->List Nat->List Nat
 | [],_,F=>F
 | n::ns,i,F=>firstsGo ns (i+1) (if n=F.length then F++[i] else F)
def firstsA (nums:List Nat):List Nat:=firstsGo nums 0 []
structure FirstsOk (nums F:List Nat) (i:Nat):Prop where
 all:∀(d k:Nat),d<i->nums[d]?=some k->k<F.length
 get:∀(k c:Nat),F[k]?=some c->c<i/\nums[c]?=some k/\∀(d e:Nat),d<c->nums[d]?=some e->e<k
theorem G2 (nums:List Nat) (hg:∀(i k:Nat),nums[i]?=some k->∀ u,u<k->∃ j,j<i/\nums[j]?=some u):∀(ns F:List Nat) (i:Nat),nums.drop i=ns->FirstsOk nums F i->FirstsOk nums (firstsGo ns i F) nums.length
 | [],F,i,hd,h=>by
   have hi:nums.length<=i:=by
    rcases lt_or_ge i nums.length with h1|h1
    ·have:=congrArg List.length hd;simp at this;omega
    ·exact h1
   refine⟨fun d k h1 h2=>h.all d k (by omega) h2,fun k c h1=>?_⟩;obtain⟨a,b,c'⟩:=h.get k c h1;exact⟨getElem?_ne_none b,b,c'⟩
 | n::ns,F,i,hd,h=>by
   have hn:nums[i]?=some n:=by
    have:=congrArg (fun l=>l[0]?) hd
    simpa using this
   have hd':nums.drop (i+1)=ns:=by
    have:=congrArg (List.drop 1) hd
    simpa [Nat.add_comm] using this
   have hle:n<=F.length:=by
    rcases lt_or_ge F.length n with h1|h1
    ·obtain⟨j,h2,h3⟩:=hg i n hn F.length h1;have:=h.all j _ h2 h3;omega
    ·exact h1
   rw[firstsGo];refine G2 nums hg ns _ (i+1) hd' ?_;split
   ·rename_i e;refine⟨fun d k h1 h2=>?_,fun k c h1=>?_⟩
    ·rw[length_append];rcases lt_or_ge d i with h3|h3
     ·have:=h.all d k h3 h2;simp;omega
     ·obtain rfl:d=i:=by omega
      rw[hn]at h2;cases h2;simp;omega
    ·rcases lt_or_ge k F.length with h3|h3
     ·rw[getElem?_append_left h3]at h1;obtain⟨a,b,c'⟩:=h.get k c h1;exact⟨by omega,b,c'⟩
     ·have hk:k=F.length:=by
       have:=getElem?_ne_none h1;simp at this;omega
      subst hk;simp at h1;subst h1;exact⟨by omega,by rw[hn,e],fun d e' h4 h5=>h.all d e' h4 h5⟩
   ·rename_i e;refine⟨fun d k h1 h2=>?_,fun k c h1=>?_⟩
    ·rcases lt_or_ge d i with h3|h3
     ·exact h.all d k h3 h2
     ·obtain rfl:d=i:=by omega
      rw[hn]at h2;cases h2;omega
    ·obtain⟨a,b,c'⟩:=h.get k c h1;exact⟨by omega,b,c'⟩
theorem CE {α:Type} [DecidableEq α] (l:List α):FirstsOk (numA l) (firstsA (numA l)) l.length:=by
 have:=G2 (numA l) (fun i k h=>Ep h) (numA l) [] 0 rfl ⟨fun d k h=>by omega,fun k c h=>by simp at h⟩
 rwa [Af]at this
theorem B4 {α:Type} [DecidableEq α] (l:List α):(firstsA (numA l)).length=(onces l).length:=by
 have h:=CE l;rcases Nat.lt_trichotomy (firstsA (numA l)).length (onces l).length with h1|h1|h1
 ·exfalso;have hm:=(Ao l _).1 (getElem_mem h1);obtain⟨i,hi,e⟩:=List.getElem_of_mem hm;have e2:=Al l (zga hi);rw[e,(BP l).idxOf_getElem _ h1]at e2;have:=h.all i _ hi e2;omega
 ·exact h1
 ·exfalso;obtain⟨_,b,_⟩:=h.get (onces l).length _ (zga h1);have:=Ki b;omega
section
variable {α β:Type} [DecidableEq α] [DecidableEq β]
theorem Ay {α:Type} [DecidableEq α]:∀(l m:List α),l.Nodup->(∀ x∈l,x∈m)->l.length<=m.length
 | [],_,_,_=>Nat.zero_le _
 | x::l,m,hn,hs=>by
   obtain⟨h1,h2⟩:=List.nodup_cons.1 hn;have hx:=hs x (by simp);have:=Ay l (m.erase x) h2 (fun y hy=>(List.mem_erase_of_ne (fun e=>by subst e;exact h1 hy)).2 (hs y (by simp[hy])));rw[List.length_erase_of_mem hx]at this;have:=List.length_pos_of_mem hx;simp only[length_cons];omega
theorem Gp (f:α->List α):∀(k i:Nat) (l:List α),l.Nodup->(bfs f k i l).Nodup
 | 0,_,_,h=>h
 | k+1,i,l,h=>by
   rw[bfs];split
   ·exact h
   ·exact Gp f k _ _ (A8 _ _ h)
theorem LI (f:α->List α) (p:α->Prop) (hf:∀ x,p x->∀ y∈f x,p y):∀(k i:Nat) (l:List α),(∀ x∈l,p x)->∀ x∈bfs f k i l,p x
 | 0,_,_,h,x,hx=>h x hx
 | k+1,i,l,h,x,hx=>by
   rw[bfs]at hx;cases e:l[i]? with
   | none=>rw[e]at hx;exact h x hx
   | some y=>
     rw[e]at hx;refine LI f p hf k _ _ (fun z hz=>?_) x hx;rcases(Bh _ _ _).1 hz with h1|h1
     ·exact h z h1
     ·exact hf y (h y (zgc e)) z h1
theorem Ox (f:α->List α):∀(k i:Nat) (l:List α),∃ m,bfs f k i l=l++m
 | 0,_,l=>⟨[],by simp[bfs]⟩
 | k+1,i,l=>by
   rw[bfs];split
   ·exact⟨[],by simp⟩
   ·rename_i x _;obtain⟨m,h⟩:=Ox f k (i+1) (addAll l (f x));obtain⟨m',h'⟩:=BC (f x) l;exact⟨m'++m,by rw[h,h',append_assoc]⟩
theorem SD {D:List α}{E:List β} (g:α->β) (hE:E.Nodup) (hs:∀ e∈E,∃ x∈D,g x=e) (hl:D.length<=E.length) {x y:α} (hx:x∈D) (hy:y∈D) (h:g x=g y):x=y:=by
 by_cases e:x=y
 ·exact e
 ·exfalso;have h1:∀ e∈E,e∈(D.erase y).map g:=by
   intro z hz;obtain⟨w,hw,e2⟩:=hs z hz;by_cases e3:w=y
   ·subst e3;exact mem_map.2 ⟨x,(List.mem_erase_of_ne e).2 hx,by rw[h,e2]⟩
   ·exact mem_map.2 ⟨w,(List.mem_erase_of_ne e3).2 hw,e2⟩
  have h2:=Ay E _ hE h1;rw[length_map,List.length_erase_of_mem hy]at h2;have:=List.length_pos_of_mem hy;omega
theorem Fy (l:List α) (g:α->β):(onces (l.map g)).length<=(onces l).length:=by
 have:=Ay (onces (l.map g)) ((onces l).map g) (BP _) (fun y hy=>by
  obtain⟨x,hx,rfl⟩:=mem_map.1 ((Ao _ _).1 hy);exact mem_map.2 ⟨x,(Ao _ _).2 hx,rfl⟩)
 simpa using this
theorem NM (l:List α):(onces (numA l)).length=(onces l).length:=by
 apply Nat.le_antisymm
 ·exact Fy l _
 ·have:=Ay (List.range (onces l).length) (onces (numA l)) List.nodup_range (fun u hu=>by
   have hu:=mem_range.1 hu;have hm:=(Ao l _).1 (getElem_mem hu);obtain⟨i,hi,e⟩:=List.getElem_of_mem hm;have e2:=Al l (zga hi);rw[e,(BP l).idxOf_getElem _ hu]at e2;exact(Ao _ _).2 (zgc e2))
  simpa using this
theorem Bl (l:List α):(onces l).length<=l.length:=Ay _ _ (BP l) (fun x hx=>(Ao l x).1 hx)
end
def putAll:List Nat->List Nat->List Nat->List Nat
 | b,s::ss,n::ns=>putAll (b.set s n) ss ns
 | b,_,_=>b
theorem BE:∀(ss ns b:List Nat),(putAll b ss ns).length=b.length
 | [],_,_=>by simp[putAll]
 | s::ss,[],_=>by simp[putAll]
 | s::ss,n::ns,b=>by rw[putAll,BE,List.length_set]
theorem Fs {s:Nat}:∀(ss ns b:List Nat),s ∉ ss->(putAll b ss ns)[s]?=b[s]?
 | [],_,_,_=>by simp[putAll]
 | t::ss,[],_,_=>by simp[putAll]
 | t::ss,n::ns,b,h=>by
   rw[putAll,Fs ss ns _ (fun h'=>h (by simp[h'])),getElem?_set_ne (fun e=>h (by simp[e]))]
theorem FT:∀(ss ns b:List Nat),ss.Nodup->(∀ s∈ss,s<b.length)->∀(i s n:Nat),ss[i]?=some s->ns[i]?=some n->(putAll b ss ns)[s]?=some n
 | [],_,_,_,_,i,s,n,h,_=>by simp at h
 | t::ss,[],_,_,_,i,s,n,_,h=>by simp at h
 | t::ss,m::ns,b,hn,hb,i,s,n,h1,h2=>by
   obtain⟨a1,a2⟩:=List.nodup_cons.1 hn;rw[putAll];cases i with
   | zero=>
     simp at h1 h2;subst h1;subst h2;rw[Fs ss ns _ a1,getElem?_set_self (hb t (by simp))]
   | succ i=>
     exact FT ss ns _ a2 (fun s hs=>by rw[List.length_set];exact hb s (by simp[hs])) i s n (by simpa using h1) (by simpa using h2)
def nxf (nx:List (List Nat)) (s c:Nat):Nat:=(nx[s]?.getD [])[c]?.getD 0
def rowA (nx:List (List Nat)) (cs b:List Nat) (s:Nat):List Nat:=(b[s]?.getD 0)::cs.map fun c=>b[nxf nx s c]?.getD 0
def blocksGo (nx:List (List Nat)) (cs states:List Nat):Nat->Nat->List Nat->List Nat
 | 0,_,b=>b
 | k+1,before,b=>
   if(onces (states.map (rowA nx cs b))).length=before then putAll b states (numA (states.map (rowA nx cs b)))
   else blocksGo nx cs states k (onces (states.map (rowA nx cs b))).length (putAll b states (numA (states.map (rowA nx cs b))))
structure BlockIn (A:DA) (top:Int) (nx:List (List Nat)) (cs states:List Nat):Prop where
 ok:A.Ok top
 next_:∀ s c,A.nx s c=nxf nx s c
 cslt:∀ c∈cs,c<A.m
 rep:∀ c,c<A.m->∃ c0∈cs,∀ s,s<A.n->A.nx s c=A.nx s c0
 nodup:states.Nodup
 lt:∀ s∈states,s<A.n
 closed:∀ s∈states,∀ c∈cs,A.nx s c∈states
structure BlockInv (A:DA) (top:Int) (states:List Nat) (before:Nat) (b:List Nat):Prop where
 len:b.length=A.n
 eqv:∀ s t,s∈states->t∈states->A.Eqv top s t->b[s]?.getD 0=b[t]?.getD 0
 ac:∀ s t,s∈states->t∈states->b[s]?.getD 0=b[t]?.getD 0->A.ac s=A.ac t
 cnt:before=0∨before=(onces (states.map fun s=>b[s]?.getD 0)).length
section
variable {A:DA}{top:Int}{nx:List (List Nat)}{cs states:List Nat}
theorem BlockIn.put (h:BlockIn A top nx cs states) {b:List Nat} (hb:b.length=A.n) {i s:Nat} (hs:states[i]?=some s) :
  (putAll b states (numA (states.map (rowA nx cs b))))[s]?=(numA (states.map (rowA nx cs b)))[i]?/\(states.map (rowA nx cs b))[i]?=some (rowA nx cs b s):=by
 have e:(states.map (rowA nx cs b))[i]?=some (rowA nx cs b s):=by rw[getElem?_map,hs];rfl
 have e2:=Al _ e;rw[e2];exact⟨FT states _ b h.nodup (fun s hs=>by rw[hb];exact h.lt s hs) i s _ hs e2,e⟩
theorem BlockIn.putEq (h:BlockIn A top nx cs states) {b:List Nat} (hb:b.length=A.n) {s t:Nat} (hs:s∈states) (ht:t∈states) :
  ((putAll b states (numA (states.map (rowA nx cs b))))[s]?.getD 0=(putAll b states (numA (states.map (rowA nx cs b))))[t]?.getD 0↔rowA nx cs b s=rowA nx cs b t):=by
 obtain⟨i,hi,e1⟩:=List.getElem_of_mem hs;obtain⟨j,hj,e2⟩:=List.getElem_of_mem ht;obtain⟨g1,g2⟩:=h.put hb (i:=i) (s:=s) (by rw[zga hi,e1]);obtain⟨g3,g4⟩:=h.put hb (i:=j) (s:=t) (by rw[zga hj,e2]);rw[g1,g3,Al _ g2,Al _ g4];exact DB g2 g4
theorem BlockIn.next (h:BlockIn A top nx cs states) {b:List Nat}{before:Nat} (hi:BlockInv A top states before b) :
  BlockInv A top states (onces (states.map (rowA nx cs b))).length (putAll b states (numA (states.map (rowA nx cs b)))) where
 len:=by rw[BE];exact hi.len
 eqv:=fun s t hs ht he=>by
  rw[h.putEq hi.len hs ht];unfold rowA;rw[hi.eqv s t hs ht he];congr 1;apply List.map_congr_left;intro c hc;rw[<- h.next_,<- h.next_];exact hi.eqv _ _ (h.closed s hs c hc) (h.closed t ht c hc) (he.cls h.ok (h.cslt c hc))
 ac:=fun s t hs ht he=>by
  rw[h.putEq hi.len hs ht]at he;unfold rowA at he;exact hi.ac s t hs ht (List.cons.inj he).1
 cnt:=.inr (by
  have:(states.map fun s=>(putAll b states (numA (states.map (rowA nx cs b))))[s]?.getD 0)=numA (states.map (rowA nx cs b)):=by
   apply List.ext_getElem?;intro i;rw[getElem?_map];cases hs:states[i]? with
   | none=>
     have:=List.getElem?_eq_none_iff.1 hs;rw[List.getElem?_eq_none (by rw[Af,length_map];exact this)];rfl
   | some s=>
     obtain⟨g1,g2⟩:=h.put hi.len hs;rw[Option.map_some,g1,Al _ g2,Option.getD_some]
  rw[this,NM])
theorem BlockIn.count_le (h:BlockIn A top nx cs states) {b:List Nat}{before:Nat} (hi:BlockInv A top states before b):before<=(onces (states.map (rowA nx cs b))).length:=by
 rcases hi.cnt with e|e
 ·omega
 ·have:(states.map fun s=>b[s]?.getD 0)=(states.map (rowA nx cs b)).map (fun r=>r.headD 0):=by
   rw[List.map_map];rfl
  rw[e,this];exact Fy _ _
theorem BlockIn.stable (h:BlockIn A top nx cs states) {b:List Nat}{before:Nat} (hi:BlockInv A top states before b) (he:(onces (states.map (rowA nx cs b))).length=before) (h0:states≠[]) :
  ∀ s t,s∈states->t∈states->b[s]?.getD 0=b[t]?.getD 0->rowA nx cs b s=rowA nx cs b t:=by
 intro s t hs ht e;have hpos:0<(onces (states.map (rowA nx cs b))).length:=by
  obtain⟨x,hx⟩:=List.exists_mem_of_ne_nil _ h0;exact List.length_pos_of_mem ((Ao _ _).2 (mem_map.2 ⟨x,hx,rfl⟩))
 have hc:before=(onces (states.map fun s=>b[s]?.getD 0)).length:=hi.cnt.resolve_left (by omega);refine SD (D:=onces (states.map (rowA nx cs b))) (E:=onces (states.map fun s=>b[s]?.getD 0)) (fun r=>r.headD 0) (BP _) (fun e he=>?_) (by omega) ((Ao _ _).2 (mem_map.2 ⟨s,hs,rfl⟩)) ((Ao _ _).2 (mem_map.2 ⟨t,ht,rfl⟩)) e;obtain⟨x,hx,rfl⟩:=mem_map.1 ((Ao _ _).1 he);exact⟨rowA nx cs b x,(Ao _ _).2 (mem_map.2 ⟨x,hx,rfl⟩),rfl⟩
theorem BlockIn.coind (h:BlockIn A top nx cs states) {b:List Nat}{before:Nat} (hi:BlockInv A top states before b)
  (hst:∀ s t,s∈states->t∈states->b[s]?.getD 0=b[t]?.getD 0->rowA nx cs b s=rowA nx cs b t):∀(w:List Int),Tx top w->∀ s t,s∈states->t∈states->b[s]?.getD 0=b[t]?.getD 0->A.ac (A.run s w)=A.ac (A.run t w)
 | [],_,s,t,hs,ht,e=>hi.ac s t hs ht e
 | x::w,hw,s,t,hs,ht,e=>by
   have hc:=h.ok.cllt x (hw x (by simp));obtain⟨c0,h1,h2⟩:=h.rep _ hc;have hr:=hst s t hs ht e;unfold rowA at hr;have hr:=(List.cons.inj hr).2;have:=List.map_inj_left.1 hr c0 h1;rw[<- h.next_,<- h.next_]at this;show A.ac (A.run (A.nx s (A.cl x)) w)=A.ac (A.run (A.nx t (A.cl x)) w);rw[h2 s (h.lt s hs),h2 t (h.lt t ht)];exact h.coind hi hst w (fun y hy=>hw y (by simp[hy])) _ _ (h.closed s hs c0 h1) (h.closed t ht c0 h1) this
theorem BlockIn.blocks (h:BlockIn A top nx cs states) (h0:states≠[]):∀(k before:Nat) (b:List Nat),BlockInv A top states before b->A.n+2<=k+before ->
  ∀ s t,s∈states->t∈states->((blocksGo nx cs states k before b)[s]?.getD 0=(blocksGo nx cs states k before b)[t]?.getD 0↔A.Eqv top s t)
 | 0,before,b,hi,hk,s,t,hs,ht=>by
   exfalso;have h1:=h.count_le hi;have h2:=Bl (states.map (rowA nx cs b));have h3:=Ay states (List.range A.n) h.nodup (fun x hx=>mem_range.2 (h.lt x hx));simp at h2 h3;omega
 | k+1,before,b,hi,hk,s,t,hs,ht=>by
   rw[blocksGo];by_cases e:(onces (states.map (rowA nx cs b))).length=before
   ·simp only[if_pos e];have hst:=h.stable hi e h0;rw[h.putEq hi.len hs ht];constructor
    ·intro hr w hw;unfold rowA at hr;exact h.coind hi hst w hw s t hs ht (List.cons.inj hr).1
    ·intro he;exact hst s t hs ht (hi.eqv s t hs ht he)
   ·simp only[if_neg e];have:=h.count_le hi;exact h.blocks h0 k _ _ (h.next hi) (by omega) s t hs ht
end
end Go.Ev
