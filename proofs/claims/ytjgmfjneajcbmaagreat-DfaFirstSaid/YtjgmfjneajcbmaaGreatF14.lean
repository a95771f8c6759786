/- What functions of the program compute; no further conditions. -/
import Derived.Test.YtjgmfjneajcbmaaGreatF13
set_option linter.unusedVariables false
set_option linter.unusedSimpArgs false
open List (any_eq_true append_assoc cons_append getElem?_eq_getElem getElem?_set_ne getElem?_set_self head?_drop length_append length_cons length_eq_zero_iff length_nil map_append map_cons map_nil map_replicate map_set map_take mem_append mem_cons mem_of_getElem? mem_range mem_singleton take_add_one take_of_length_le)
open Nat (le_refl lt_or_ge mul_one zero_le)
open Array (size_empty)
open Go.Proofs Go.RowKit Go.IntWalk
set_option maxHeartbeats 8000000
set_option maxRecDepth 100000
namespace Go.Ev
attribute [local go_sem] evBin AV.cells AV.ok frzB
section
attribute [local go_sem] evAppend
def badAt (l:List (Int×Int)) (i:Nat):Bool:=
 match l[i]? with
 | some p=>!decide (0<=p.1/\p.1<=p.2/\p.2<=1114111)||(match i with
   | 0=>false
   | k+1=>match l[k]? with
     | some q=>decide (p.1-q.2<2)
     | none=>false)
 | none=>false
def refSpans (l:List (Int×Int)):Int:=if(List.range l.length).any (badAt l) then 1 else if 64<l.length then 4 else 0
theorem Db {l:List (Int×Int)}{i:Nat} (hi:i<l.length) (h:badAt l i=true):refSpans l=1:=by
 unfold refSpans;rw[if_pos];exact any_eq_true.2 ⟨i,mem_range.2 hi,h⟩
theorem EO {l:List (Int×Int)} (h:∀ k,k<l.length->badAt l k=false):refSpans l=if 64<l.length then 4 else 0:=by
 unfold refSpans;rw[if_neg];intro h2;obtain⟨k,h3,h4⟩:=any_eq_true.1 h2;rw[h k (mem_range.1 h3)]at h4;cases h4
end
section
attribute [local go_sem] evAppend
theorem f91 (a b:Int) (H:List MB):call Pg pol1 101 [.agg [.int .i64 a,.int .i64 b]] H=some (.bool (decide (0<=a/\a<=b/\b<=1114111)),H):=by
 refine AX Tryz.func101 rfl rfl rfl rfl rfl rfl (fun _=>rfl) (by simp[AV.plain,AV.plainL,AG,AF,AI,AK]) (by simp[AV.plain,AV.plainL,AG,AF,AI,AK]) ?_ H;simp only[Tryz.f101,Sx,go_sem,simprocAttr,SN];repeat' (first|intro _|apply And.intro|refine fzEq rfl ?_)
 all_goals (congr 1;simp only[decide_eq_decide,false_eq_decide_iff];omega)
theorem f121 (l:List (Int×Int)) (hl:l.length<=1000000) (H:List MB):call Pg pol1 66 [.sl false (l.map spanAV)] H=some (I (refSpans l),H):=by
 refine AX Tryz.func66 rfl rfl rfl rfl rfl rfl (fun _=>rfl) (by simp[AV.plain,AV.plainL,AG,AF,AI,AK]) (by simp[AV.plain,AV.plainL,AG,AF,AI,AK]) ?_ H;simp only[Tryz.f66,dd66,go_sem,simprocAttr,mu66];refine Ae (M:=(mskOf (pol1.mask 66) (pol1.gc 66) (pol1.acts 66) 0 2)) rfl l.length (fun i=>(⟨35,[(7,I i),(6,I l.length),(5,.sl false (l.map spanAV)),(0,.sl false (l.map spanAV))],[]⟩:St)) (fun i=>∀ k,k<i->badAt l k=false) ?_ ?_ (fun k h=>by omega) _ (by first|rfl|(refine BD rfl (by rfl) (by rfl) (by rfl) ?_ ?_<;>simp[AV.underL,AV.under,MB.under,AE,AH,AG,AF,AI,AK,-map_take]))
 ·intro i hlt hg;obtain⟨p,hp⟩:∃ p,l[i]?=some p:=⟨_,getElem?_eq_getElem hlt⟩;have ext:badAt l i=false->∀ k,k<i+1->badAt l k=false:=fun h k hk=>by
   rcases lt_or_ge k i with h1|h1
   ·exact hg k h1
   ·obtain rfl:k=i:=by omega
    exact h
  by_cases hgd:0<=p.1/\p.1<=p.2/\p.2<=1114111
  ·rcases i with _|i
   ·simp +contextual (disch:=omega) only[Tryz.f66,dd66,go_sem,simprocAttr,mu66,↓AD,↓AC,↓AB,↓AA,hp,spanAV,hgd,f91];refine⟨by unfold dOk;kernel_rfl,ext ?_,(by first|rfl|(refine BD rfl (by rfl) (by rfl) (by rfl) ?_ ?_<;>simp[AV.underL,AV.under,MB.under,AE,AH,AG,AF,AI,AK,-map_take]))⟩;simp[badAt,hp,hgd]
   ·obtain⟨q,hq⟩:∃ q,l[i]?=some q:=⟨_,getElem?_eq_getElem (by omega)⟩;have hbq:=hg i (by omega);simp only[badAt,hq,Bool.or_eq_false_iff,Bool.not_eq_false',decide_eq_true_eq]at hbq
    replace hbq:=hbq.1
    have hb:badAt l (i+1)=decide (p.1-q.2<2):=by simp[badAt,hp,hq,hgd]
    simp +contextual (disch:=omega) only[Tryz.f66,dd66,go_sem,simprocAttr,mu66,↓AD,↓AC,↓AB,↓AA,hp,hq,spanAV,hgd,f91];refine⟨by unfold dOk;kernel_rfl,fun h=>fzEq rfl ?_,fun h=>⟨ext ?_,(by first|rfl|(refine BD rfl (by rfl) (by rfl) (by rfl) ?_ ?_<;>simp[AV.underL,AV.under,MB.under,AE,AH,AG,AF,AI,AK,-map_take]))⟩⟩
    ·rw[Db hlt];simp[hb];omega
    ·simp[hb];omega
  ·simp +contextual (disch:=omega) only[Tryz.f66,dd66,go_sem,simprocAttr,mu66,↓AD,↓AC,↓AB,↓AA,hp,spanAV,hgd,f91];refine⟨by unfold dOk;kernel_rfl,fzEq rfl ?_⟩;rw[Db hlt (by simp only[badAt,hp];simp only[hgd,decide_false,Bool.not_false,Bool.true_or])]
 ·intro hg;rw[EO hg];simp +contextual (disch:=omega) only[Tryz.f66,dd66,go_sem,simprocAttr,mu66,↓AD,↓AC,↓AB,↓AA];refine⟨fun h=>fzEq rfl ?_,fun h=>fzEq rfl ?_⟩
  ·rw[if_pos (by omega)]
  ·rw[if_neg (by omega)]
end
section
attribute [local go_sem] evAppend
def lastOk (l:List (Int×Int)) (top:Int):Bool:=
 match l[l.length-1]? with
 | some p=>decide (p.2<=top)
 | none=>true
def okIns (n:Nat) (caps:Int) (runes:Bool) (i:Ins):Bool:=
 (i.op==1||i.set.length==0)&&(i.op==2||i.y==0)&&(i.op==2||i.op==3||i.x==0)&&(i.op==4||i.op==5||i.n==0) &&
 (i.op==0||(i.op==1&&(refSpans i.set==0&&lastOk i.set (if runes then 1114111 else 255))) ||
  (i.op==2&&(decide (0<=i.x)&&decide (i.x<n)&&decide (0<=i.y)&&decide (i.y<n)))||(i.op==3&&(decide (0<=i.x)&&decide (i.x<n))) ||
  (i.op==4&&(decide (0<=i.n)&&decide (i.n<2*caps)))||(i.op==5&&(decide (0<=i.n)&&decide (i.n<=5))))
end
section
attribute [local go_sem] evAppend Av BG bndO bnd evEq eqCells not_false_eq_true not_true_eq_false Af size_empty length_append map_append
def PrgB (g:Prg):Prop:=g.ins.length<=1000000/\∀ i∈g.ins,i.set.length<=1000000
def lastGood (g:Prg):Bool:=match g.ins[g.ins.length-1]? with
 | some i=>i.op==0||i.op==2||i.op==3
 | none=>false
def validG (g:Prg):Int:=
 if 8192<g.ins.length then 4
 else if g.ins.length=0∨g.caps<0∨9<g.caps then 1
 else if g.ins.all (okIns g.ins.length g.caps g.runes)&&lastGood g then 0 else 1
theorem LR {g:Prg} (h1:¬ 8192<g.ins.length) {k:Nat}{i:Ins} (hk:g.ins[k]?=some i) (hb:okIns g.ins.length g.caps g.runes i=false):validG g=1:=by
 have:(g.ins.all (okIns g.ins.length g.caps g.runes))=false:=by
  rw[List.all_eq_false];exact⟨i,mem_of_getElem? hk,by simp[hb]⟩
 simp[validG,h1,this]
theorem Jt {g:Prg} (h1:¬ 8192<g.ins.length) (h2:¬(g.ins.length=0∨g.caps<0∨9<g.caps)) (ha:∀ k i,k<g.ins.length->g.ins[k]?=some i->okIns g.ins.length g.caps g.runes i=true) :
  validG g=if lastGood g then 0 else 1:=by
 have:(g.ins.all (okIns g.ins.length g.caps g.runes))=true:=by
  rw[List.all_eq_true];intro i hi;obtain⟨k,hk,e⟩:=List.getElem_of_mem hi;exact ha k i hk (by rw[<- e];exact getElem?_eq_getElem hk)
 unfold validG;rw[if_neg h1,if_neg h2,this,Bool.true_and]
end
section
attribute [local go_sem] evAppend Av BG bndO bnd evEq eqCells not_false_eq_true not_true_eq_false Af size_empty length_append map_append
theorem f120 (g:Prg) (n:Int) (b:MB) (hl:g.ins.length<=1000000) :
  call Pg pol1 136 [.int .i64 n,.rf 0 1 0 0] [.row 3 [.agg [.sl false (g.ins.map insAV),I g.caps,.bool g.runes]] 0,b] =
   some (.bool (decide (0<=n/\n<g.ins.length)),[.row 3 [.agg [.sl false (g.ins.map insAV),I g.caps,.bool g.runes]] 0,b]):=by
 refine AO Tryz.func136 rfl rfl rfl rfl (by rfl) ?_;by_cases h:0<=n
 ·by_cases h2:n<g.ins.length
  all_goals
   simp +contextual (disch:=omega) only[Tryz.f136,Qe,go_sem,simprocAttr,QW,↓AD,↓AC,↓AB,↓AA];refine(Bt rfl rfl rfl ?_ rfl).trans ?_
   ·simp[keptOk,MB.beq_refl]
   ·simp[h,h2]
 ·simp +contextual (disch:=omega) only[Tryz.f136,Qe,go_sem,simprocAttr,QW,↓AD,↓AC,↓AB,↓AA];refine(Bt rfl rfl rfl ?_ rfl).trans ?_
  ·simp[keptOk,MB.beq_refl]
  ·simp[h]
theorem Hv {l:List (Int×Int)} (h:refSpans l=0) {p:Int×Int} (hp:l[l.length-1]?=some p):p.2<=1114111:=by
 have hl:l.length-1<l.length:=(List.getElem?_eq_some_iff.1 hp).1;cases hb:badAt l (l.length-1) with
 | true=>rw[Db hl hb]at h;cases h
 | false=>
   simp only[badAt,hp,Bool.or_eq_false_iff,Bool.not_eq_false',decide_eq_true_eq]at hb;exact hb.1.2.2
theorem f69 (g:Prg) (i:Ins) (hc:0<=g.caps/\g.caps<=9) (hl:g.ins.length<=1000000) (hs:i.set.length<=1000000) (H:List MB) :
  call Pg pol1 100 [.agg [.sl false (g.ins.map insAV),I g.caps,.bool g.runes],.pt [I i.op,I i.x,I i.y,I i.n,.sl false (i.set.map spanAV)]] H=some (.bool (okIns g.ins.length g.caps g.runes i),H):=by
 refine AX Tryz.func100 rfl rfl rfl rfl rfl rfl (fun _=>rfl) (by simp[AV.plain,AV.plainL,AG,AF,AI,AK]) (by simp[AV.plain,AV.plainL,AG,AF,AI,AK]) ?_ H;obtain⟨op,x,y,n,set⟩:=i;simp only[]at hs;by_cases h1:op=1
 ·subst h1;rcases Nat.eq_zero_or_pos set.length with hz|hz
  ·obtain rfl:set=[]:=length_eq_zero_iff.1 hz;have ht:=f121 [] (by simp);have e:refSpans []=0:=by decide
   rw[e,map_nil]at ht;cases hr:g.runes
   all_goals
    simp +contextual (disch:=omega) only[Tryz.f100,F8,go_sem,simprocAttr,Fz,↓AD,↓AC,↓AB,↓AA,prgAV,ht,hr];repeat' (first|intro _|apply And.intro|refine fzEq rfl (congrArg AV.bool ?_)|(unfold dOk;kernel_rfl)|(show (_&&_)=true;kernel_rfl)|(show (_||_)=true;kernel_rfl))
    all_goals (try rw[Bool.eq_iff_iff];try simp_all [okIns,lastOk];try omega)
  ·obtain⟨p,hp⟩:∃ p,set[set.length-1]?=some p:=⟨_,getElem?_eq_getElem (by omega)⟩;have ht:=f121 set hs;have hq:refSpans set=0->p.2<=1114111:=fun h=>Hv h hp;cases hr:g.runes
   all_goals
    simp +contextual (disch:=omega) only[Tryz.f100,F8,go_sem,simprocAttr,Fz,↓AD,↓AC,↓AB,↓AA,prgAV,ht,hr,hp,spanAV];repeat' (first|intro _|apply And.intro|refine fzEq rfl (congrArg AV.bool ?_)|(unfold dOk;kernel_rfl)|(show (_&&_)=true;kernel_rfl)|(show (_||_)=true;kernel_rfl))
    all_goals (try rw[Bool.eq_iff_iff];try simp_all [okIns,lastOk];try omega)
 by_cases h0:op=0
 ·subst h0;simp +contextual (disch:=omega) only[Tryz.f100,F8,go_sem,simprocAttr,Fz,↓AD,↓AC,↓AB,↓AA,prgAV];repeat' (first|intro _|apply And.intro|refine fzEq rfl (congrArg AV.bool ?_)|(unfold dOk;kernel_rfl)|(show (_&&_)=true;kernel_rfl)|(show (_||_)=true;kernel_rfl))
  all_goals (try rw[Bool.eq_iff_iff];try simp_all [okIns,-length_eq_zero_iff];try omega)
 by_cases h2:op=2
 ·subst h2;simp +contextual (disch:=omega) only[Tryz.f100,F8,go_sem,simprocAttr,Fz,↓AD,↓AC,↓AB,↓AA,prgAV,f120,hl];repeat' (first|intro _|apply And.intro|refine fzEq rfl (congrArg AV.bool ?_)|(unfold dOk;kernel_rfl)|(show (_&&_)=true;kernel_rfl)|(show (_||_)=true;kernel_rfl))
  all_goals (try rw[Bool.eq_iff_iff];try simp_all [okIns,-length_eq_zero_iff];try omega)
 by_cases h3:op=3
 ·subst h3;simp +contextual (disch:=omega) only[Tryz.f100,F8,go_sem,simprocAttr,Fz,↓AD,↓AC,↓AB,↓AA,prgAV,f120,hl];repeat' (first|intro _|apply And.intro|refine fzEq rfl (congrArg AV.bool ?_)|(unfold dOk;kernel_rfl)|(show (_&&_)=true;kernel_rfl)|(show (_||_)=true;kernel_rfl))
  all_goals (try rw[Bool.eq_iff_iff];try simp_all [okIns,-length_eq_zero_iff];try omega)
 by_cases h4:op=4
 ·subst h4;simp +contextual (disch:=omega) only[Tryz.f100,F8,go_sem,simprocAttr,Fz,↓AD,↓AC,↓AB,↓AA,prgAV];repeat' (first|intro _|apply And.intro|refine fzEq rfl (congrArg AV.bool ?_)|(unfold dOk;kernel_rfl)|(show (_&&_)=true;kernel_rfl)|(show (_||_)=true;kernel_rfl))
  all_goals (try rw[Bool.eq_iff_iff];try simp_all [okIns,-length_eq_zero_iff];try omega)
 by_cases h5:op=5
 ·subst h5;simp +contextual (disch:=omega) only[Tryz.f100,F8,go_sem,simprocAttr,Fz,↓AD,↓AC,↓AB,↓AA,prgAV];repeat' (first|intro _|apply And.intro|refine fzEq rfl (congrArg AV.bool ?_)|(unfold dOk;kernel_rfl)|(show (_&&_)=true;kernel_rfl)|(show (_||_)=true;kernel_rfl))
  all_goals (try rw[Bool.eq_iff_iff];try simp_all [okIns,-length_eq_zero_iff];try omega)
 simp +contextual (disch:=omega) only[Tryz.f100,F8,go_sem,simprocAttr,Fz,↓AD,↓AC,↓AB,↓AA,prgAV];repeat' (first|intro _|apply And.intro|refine fzEq rfl (congrArg AV.bool ?_)|(unfold dOk;kernel_rfl)|(show (_&&_)=true;kernel_rfl)|(show (_||_)=true;kernel_rfl))
 all_goals (try rw[Bool.eq_iff_iff];try simp_all [okIns,-length_eq_zero_iff];try omega)
end
section
attribute [local go_sem] evAppend Av BG bndO bnd evEq eqCells not_false_eq_true not_true_eq_false Af size_empty length_append map_append tySzE head?_drop mul_one AR AY AP AS AT Ad
theorem f30 (g:Prg) (hb:PrgB g) (H:List MB):call Pg pol1 65 [.agg [.sl false (g.ins.map insAV),I g.caps,.bool g.runes]] H=some (I (validG g),H):=by
 obtain⟨hl,hs⟩:=hb;refine AX Tryz.func65 rfl rfl rfl rfl rfl rfl (fun _=>rfl) (by simp[AV.plain,AV.plainL,AG,AF,AI,AK]) (by simp[AV.plain,AV.plainL,AG,AF,AI,AK]) ?_ H;by_cases h1:8192<g.ins.length
 ·have e:validG g=4:=by simp[validG,h1]
  rw[e];simp +contextual (disch:=omega) only[Tryz.f65,dd65,go_sem,simprocAttr,mu65,↓AD,↓AC,↓AB,↓AA];exact fzEq rfl rfl
 by_cases h2:g.ins.length=0∨g.caps<0∨9<g.caps
 ·have e:validG g=1:=by unfold validG;rw[if_neg h1,if_pos h2]
  rw[e];simp +contextual (disch:=omega) only[Tryz.f65,dd65,go_sem,simprocAttr,mu65,↓AD,↓AC,↓AB,↓AA];repeat' (first|intro _|apply And.intro|exact fzEq rfl rfl)
  all_goals (exfalso;omega)
 simp +contextual (disch:=omega) only[Tryz.f65,dd65,go_sem,simprocAttr,mu65,↓AD,↓AC,↓AB,↓AA]
 refine Ae (M:=(mskOf (pol1.mask 65) (pol1.gc 65) (pol1.acts 65) 0 6)) rfl g.ins.length (fun i=>(⟨49,[(25,I i),(24,I g.ins.length),(1,.rf 0 1 0 0)],[.row 3 [prgAV g] 0]⟩:St))
  (fun i=>∀ k p,k<i->g.ins[k]?=some p->okIns g.ins.length g.caps g.runes p=true) ?_ ?_ (fun k p h=>by omega) _ (by first|rfl|(refine BD rfl (by rfl) (by rfl) (by rfl) ?_ ?_<;>simp[AV.underL,AV.under,MB.under,AE,AH,AG,AF,AI,AK,-map_take]))
 ·intro i hi hg;obtain⟨p,hp⟩:∃ p,g.ins[i]?=some p:=⟨_,getElem?_eq_getElem hi⟩;have hsp:=hs p (mem_of_getElem? hp);have hf:=f69 g p (by omega) hl hsp;cases hok:okIns g.ins.length g.caps g.runes p
  ·rw[hok]at hf;simp +contextual (disch:=omega) only[Tryz.f65,dd65,go_sem,simprocAttr,mu65,↓AD,↓AC,↓AB,↓AA,hp,hf];refine⟨by unfold dOk;kernel_rfl,fzEq rfl ?_⟩;rw[LR h1 hp hok]
  ·rw[hok]at hf;simp +contextual (disch:=omega) only[Tryz.f65,dd65,go_sem,simprocAttr,mu65,↓AD,↓AC,↓AB,↓AA,hp,hf];refine⟨by unfold dOk;kernel_rfl,fun k q hk hq=>?_,(by first|rfl|(refine BD rfl (by rfl) (by rfl) (by rfl) ?_ ?_<;>simp[AV.underL,AV.under,MB.under,AE,AH,AG,AF,AI,AK,-map_take]))⟩;rcases lt_or_ge k i with h|h
   ·exact hg k q h hq
   ·obtain rfl:k=i:=by omega
    rw[hp]at hq;obtain rfl:=Option.some.inj hq;exact hok
 ·intro hg;rw[Jt h1 h2 (fun k p hk hp=>hg k p hk hp)];obtain⟨p,hp⟩:∃ p,g.ins[g.ins.length-1]?=some p:=⟨_,getElem?_eq_getElem (by omega)⟩;have e:lastGood g=(p.op==0||p.op==2||p.op==3):=by simp[lastGood,hp]
  rw[e];simp +contextual (disch:=omega) only[Tryz.f65,dd65,go_sem,simprocAttr,mu65,↓AD,↓AC,↓AB,↓AA,hp];repeat' (first|intro _|apply And.intro|refine fzEq rfl ?_)
  all_goals (congr 1<;>simp<;>omega)
end
section
attribute [local go_sem] evAppend Av BG bndO bnd evEq eqCells not_false_eq_true not_true_eq_false Af size_empty length_append map_append
def hasSpan (l:List (Int×Int)) (x:Int):Bool:=l.any fun p=>decide (p.1<=x)&&decide (x<=p.2)
theorem Eg {l:List (Int×Int)}{x:Int}{i:Nat}{p:Int×Int} (h:l[i]?=some p) (hp:p.1<=x/\x<=p.2):hasSpan l x=true:=by
 unfold hasSpan;exact any_eq_true.2 ⟨p,mem_of_getElem? h,by simp[hp]⟩
theorem Ef {l:List (Int×Int)}{x:Int} (h:∀ k p,k<l.length->l[k]?=some p->¬ (p.1<=x/\x<=p.2)):hasSpan l x=false:=by
 unfold hasSpan;rw[List.any_eq_false];intro p hp;obtain⟨k,hk,e⟩:=List.getElem_of_mem hp;have:=h k p hk (by rw[<- e];exact getElem?_eq_getElem hk)
 simpa using this
theorem f43 (l:List (Int×Int)) (x:Int) (hl:l.length<=1000000) (H:List MB):call Pg pol1 70 [.sl false (l.map spanAV),I x] H=some (.bool (hasSpan l x),H):=by
 refine AX Tryz.func70 rfl rfl rfl rfl rfl rfl (fun _=>rfl) (by simp[AV.plain,AV.plainL,AG,AF,AI,AK]) (by simp[AV.plain,AV.plainL,AG,AF,AI,AK]) ?_ H;simp +contextual (disch:=omega) only[Tryz.f70,dd70,go_sem,simprocAttr,mu70,↓AD,↓AC,↓AB,↓AA];refine Ae (M:=(mskOf (pol1.mask 70) (pol1.gc 70) (pol1.acts 70) 0 2)) rfl l.length (fun i=>(⟨24,[(9,I i),(8,I l.length),(7,.sl false (l.map spanAV)),(1,I x)],[]⟩:St)) (fun i=>∀ k p,k<i->l[k]?=some p->¬ (p.1<=x/\x<=p.2)) ?_ ?_ (fun k p h=>by omega) _ (by first|rfl|(refine BD rfl (by rfl) (by rfl) (by rfl) ?_ ?_<;>simp[AV.underL,AV.under,MB.under,AE,AH,AG,AF,AI,AK,-map_take]))
 ·intro i hi hg;obtain⟨p,hp⟩:∃ p,l[i]?=some p:=⟨_,getElem?_eq_getElem hi⟩;by_cases hin:p.1<=x/\x<=p.2
  ·rw[Eg hp hin];simp +contextual (disch:=omega) only[Tryz.f70,dd70,go_sem,simprocAttr,mu70,↓AD,↓AC,↓AB,↓AA,hp,spanAV];exact fzEq rfl rfl
  ·have ext:∀ k q,k<i+1->l[k]?=some q->¬ (q.1<=x/\x<=q.2):=fun k q hk hq=>by
    rcases lt_or_ge k i with h|h
    ·exact hg k q h hq
    ·obtain rfl:k=i:=by omega
     rw[hp]at hq;obtain rfl:=Option.some.inj hq;exact hin
   by_cases h1:p.1<=x
   ·simp +contextual (disch:=omega) only[Tryz.f70,dd70,go_sem,simprocAttr,mu70,↓AD,↓AC,↓AB,↓AA,hp,spanAV];exact⟨ext,(by first|rfl|(refine BD rfl (by rfl) (by rfl) (by rfl) ?_ ?_<;>simp[AV.underL,AV.under,MB.under,AE,AH,AG,AF,AI,AK,-map_take]))⟩
   ·simp +contextual (disch:=omega) only[Tryz.f70,dd70,go_sem,simprocAttr,mu70,↓AD,↓AC,↓AB,↓AA,hp,spanAV];exact⟨ext,(by first|rfl|(refine BD rfl (by rfl) (by rfl) (by rfl) ?_ ?_<;>simp[AV.underL,AV.under,MB.under,AE,AH,AG,AF,AI,AK,-map_take]))⟩
 ·intro hg;rw[Ef hg];simp +contextual (disch:=omega) only[Tryz.f70,dd70,go_sem,simprocAttr,mu70,↓AD,↓AC,↓AB,↓AA];exact fzEq rfl rfl
def wordI (x:Int):Bool:=(decide (97<=x)&&decide (x<=122))||(decide (65<=x)&&decide (x<=90))||(decide (48<=x)&&decide (x<=57))||x==95
end
section
attribute [local go_sem] evAppend
def aroundI (n m:Int):Int:=(if n<0 then-(n+1) else n) % m
def In64 (n:Int):Prop:=-9223372036854775808<=n/\n<=9223372036854775807
theorem I6 {n m:Int} (h:0<m):0<=aroundI n m/\aroundI n m<m:=by
 unfold aroundI;have:0<=(if n<0 then-(n+1) else n):=by split<;>omega
 exact⟨Int.emod_nonneg _ (by omega),Int.emod_lt_of_pos _ h⟩
theorem f12 (n m:Int) (hn:In64 n) (hm:m≠0) (H:List MB):call Pg pol1 10 [.int .i64 n,.int .i64 m] H=some (I (aroundI n m),H):=by
 obtain⟨h1,h2⟩:=hn;refine AX Tryz.func10 rfl rfl rfl rfl rfl rfl (fun _=>rfl) (by simp[AV.plain,AV.plainL,AG,AF,AI,AK]) (by simp[AV.plain,AV.plainL,AG,AF,AI,AK]) ?_ H;simp +contextual (disch:=omega) only[Tryz.f10,dd10,go_sem,simprocAttr,mu10,↓AD,↓AC,↓AB,↓AA];unfold aroundI;refine⟨fun h=>⟨hm,fzEq rfl ?_⟩,fun h=>⟨hm,fzEq rfl ?_⟩⟩
 ·rw[if_pos h];try (congr 2;omega)
 ·rw[if_neg h]
def pickI (l:List Int) (i m:Int):Int:=if i<0 then 0 else match l[i.toNat]? with
 | some x=>aroundI x m
 | none=>0
theorem GR {l:List Int}{i m:Int} (h:0<m):0<=pickI l i m/\pickI l i m<m:=by
 unfold pickI;split
 ·omega
 ·split
  ·exact I6 h
  ·omega
theorem f57 (l:List Int) (i m:Int) (hl:∀ x∈l,In64 x) (hm:m≠0) (H:List MB):call Pg pol1 32 [.sl false (l.map I),.int .i64 i,.int .i64 m] H=some (I (pickI l i m),H):=by
 refine AX Tryz.func32 rfl rfl rfl rfl rfl rfl (fun _=>rfl) (by simp[AV.plain,AV.plainL,AG,AF,AI,AK]) (by simp[AV.plain,AV.plainL,AG,AF,AI,AK]) ?_ H;by_cases h0:i<0
 ·have e:pickI l i m=0:=by simp[pickI,h0]
  rw[e];simp +contextual (disch:=omega) only[Tryz.f32,dd32,go_sem,simprocAttr,mu32,↓AD,↓AC,↓AB,↓AA];exact fzEq rfl rfl
 ·obtain⟨k,rfl⟩:∃ k:Nat,i=k:=⟨i.toNat,by omega⟩;by_cases h1:k<l.length
  ·obtain⟨p,hp⟩:∃ p,l[k]?=some p:=⟨_,getElem?_eq_getElem h1⟩;have e:pickI l k m=aroundI p m:=by simp[pickI,h0,hp]
   rw[e];have hf:=f12 p m (hl p (mem_of_getElem? hp)) hm;simp +contextual (disch:=omega) only[Tryz.f32,dd32,go_sem,simprocAttr,mu32,↓AD,↓AC,↓AB,↓AA,hp,hf];exact fzEq rfl rfl
  ·have e:pickI l k m=0:=by simp[pickI,List.getElem?_eq_none (Nat.le_of_not_lt h1)]
   rw[e];simp +contextual (disch:=omega) only[Tryz.f32,dd32,go_sem,simprocAttr,mu32,↓AD,↓AC,↓AB,↓AA];exact fzEq rfl rfl
end
end Go.Ev
/- What a state of the machine is: the plain laws of the search for it. -/
namespace Go.Ev
structure VS where
 r:List Nat
 a:List Bool
 c:Bool
def VS.mark (s:VS) (n:Nat):VS:=⟨s.r,s.a.set n true,s.c⟩
def VS.found (s:VS) (n:Nat) (c:Bool):VS:=⟨s.r++[n],s.a.set n true,c⟩
def VS.open (s:VS):Nat:=s.a.countP (fun b=>!b)
def visit (ins:List Ins):Nat->Nat->VS->VS
 | 0,_,s=>s
 | k+1,n,s=>
   if s.c=true∨s.a[n]?≠some false then s
   else match ins[n]? with
    | none=>s
    | some i=>
      if i.op=0 then s.found n true
      else if i.op=1 then s.found n false
      else if i.op=3 then visit ins k i.x.toNat (s.mark n)
      else if i.op=2 then visit ins k i.y.toNat (visit ins k i.x.toNat (s.mark n))
      else if i.op=4 then visit ins k (n+1) (s.mark n)
      else s.mark n
def visits (ins:List Ins) (k:Nat) (ns:List Nat) (s:VS):VS:=ns.foldl (fun s n=>visit ins k n s) s
def vs0 (n:Nat):VS:=⟨[],List.replicate n false,false⟩
def stateL (ins:List Ins) (ns:List Nat):List Nat:=(visits ins (ins.length+1) ns (vs0 ins.length)).r
theorem EU (ins:List Ins) (k:Nat) (s:VS):visits ins k [] s=s:=rfl
theorem C9 (ins:List Ins) (k n:Nat) (ns:List Nat) (s:VS):visits ins k (n::ns) s=visits ins k ns (visit ins k n s):=rfl
theorem Ge (ins:List Ins) (k n:Nat) (s:VS):visits ins k [n] s=visit ins k n s:=rfl
theorem LQ (ins:List Ins) (k n m:Nat) (s:VS):visits ins k [n,m] s=visit ins k m (visit ins k n s):=rfl
theorem HX {l:List Bool}{n:Nat} (h:l[n]?=some false):(l.set n true).countP (fun b=>!b)+1=l.countP (fun b=>!b):=by
 induction l generalizing n with
 | nil=>simp at h
 | cons b l ih=>
   cases n with
   | zero=>
     simp at h;subst h;simp
   | succ n=>
     simp at h;have:=ih h;simp only[List.set_cons_succ,List.countP_cons];omega
theorem FV {s:VS}{n:Nat} (h:s.a[n]?=some false):(s.mark n).open+1=s.open:=HX h
theorem G0 {s:VS}{n:Nat}{c:Bool} (h:s.a[n]?=some false):(s.found n c).open+1=s.open:=HX h
structure VS.Ok (N:Nat) (s:VS):Prop where
 len:s.a.length=N
 res:∀ n∈s.r,n<N/\s.a[n]?=some true
 nodup:s.r.Nodup
theorem VS.Ok.mark {N n:Nat}{s:VS} (h:s.Ok N):(s.mark n).Ok N:=by
 refine⟨by simp[VS.mark,h.len],fun m hm=>?_,h.nodup⟩;obtain⟨h1,h2⟩:=h.res m hm;refine⟨h1,?_⟩;simp only[VS.mark];by_cases e:n=m
 ·subst e;rw[getElem?_set_self (by rw[h.len];exact h1)]
 ·rw[getElem?_set_ne e];exact h2
theorem VS.Ok.found {N n:Nat}{c:Bool}{s:VS} (h:s.Ok N) (hn:s.a[n]?=some false):(s.found n c).Ok N:=by
 have hlt:n<s.a.length:=(List.getElem?_eq_some_iff.1 hn).1;have hm:=h.mark (n:=n);refine⟨hm.len,fun m hm'=>?_,?_⟩
 ·rcases mem_append.1 hm' with h1|h1
  ·exact hm.res m h1
  ·rw[mem_singleton.1 h1];exact⟨by rw[<- h.len];exact hlt,by simp only[VS.found];rw[getElem?_set_self hlt]⟩
 ·refine List.nodup_append.2 ⟨h.nodup,by simp,fun x hx y hy e=>?_⟩;rw[mem_singleton.1 hy]at e;subst e;have:=(h.res x hx).2;rw[hn]at this;cases this
theorem VS.Ok.visit {N:Nat}{ins:List Ins}:∀ {k n:Nat}{s:VS},s.Ok N->(visit ins k n s).Ok N/\(Go.Ev.visit ins k n s).open<=s.open
 | 0,n,s,h=>⟨h,le_refl _⟩
 | k+1,n,s,h=>by
   simp only[Go.Ev.visit];split
   ·exact⟨h,le_refl _⟩
   ·rename_i hc;have hn:s.a[n]?=some false:=by
     by_cases e:s.a[n]?=some false
     ·exact e
     ·exact absurd (.inr e) hc
    have ho:=FV hn;split
    ·exact⟨h,le_refl _⟩
    ·split
     ·exact⟨h.found hn,by have:=G0 (c:=true) hn;omega⟩
     ·split
      ·exact⟨h.found hn,by have:=G0 (c:=false) hn;omega⟩
      ·split
       ·have:=VS.Ok.visit (ins:=ins) (k:=k) (n:=‹Ins›.x.toNat) (h.mark (n:=n));exact⟨this.1,by omega⟩
       ·split
        ·have h1:=VS.Ok.visit (ins:=ins) (k:=k) (n:=‹Ins›.x.toNat) (h.mark (n:=n));have h2:=VS.Ok.visit (ins:=ins) (k:=k) (n:=‹Ins›.y.toNat) h1.1;exact⟨h2.1,by omega⟩
        ·split
         ·have:=VS.Ok.visit (ins:=ins) (k:=k) (n:=n+1) (h.mark (n:=n));exact⟨this.1,by omega⟩
         ·exact⟨h.mark,by omega⟩
theorem VS.Ok.visits {N k:Nat}{ins:List Ins}:∀ {ns:List Nat}{s:VS},s.Ok N->(visits ins k ns s).Ok N/\(Go.Ev.visits ins k ns s).open<=s.open
 | [],s,h=>⟨h,le_refl _⟩
 | n::ns,s,h=>by
   have h1:=h.visit (ins:=ins) (k:=k) (n:=n);have h2:=VS.Ok.visits (ins:=ins) (k:=k) (ns:=ns) h1.1;rw[C9];exact⟨h2.1,by omega⟩
theorem JB (N:Nat):(vs0 N).Ok N:=⟨by simp[vs0],fun n h=>by simp[vs0]at h,by simp[vs0]⟩
theorem Jr (N:Nat):(vs0 N).open=N:=by
 simp[vs0,VS.open,List.countP_replicate]
theorem IY {N:Nat}{l:List Nat} (h:l.Nodup) (hl:∀ n∈l,n<N):l.length<=N:=by
 have:=List.Nodup.length_le_of_subset h (l₂:=List.range N) (fun x hx=>mem_range.2 (hl x hx))
 simpa using this
theorem VS.Ok.small {N:Nat}{s:VS} (h:s.Ok N):s.r.length<=N:=IY h.nodup (fun n hn=>(h.res n hn).1)
theorem D9 (ins:List Ins) (ns:List Nat):(∀ n∈stateL ins ns,n<ins.length)/\(stateL ins ns).length<=ins.length:=by
 have h:=((JB ins.length).visits (ins:=ins) (k:=ins.length+1) (ns:=ns)).1;exact⟨fun n hn=>(h.res n hn).1,h.small⟩
end Go.Ev
namespace Go.Ev
attribute [local go_sem] evBin AV.cells AV.ok frzB
section
attribute [local go_sem] Av BG bndO bnd evEq eqCells not_false_eq_true not_true_eq_false Af size_empty length_append map_append tySzE head?_drop mul_one AR AY AP AS AT Ad
abbrev NV (n:Nat):AV:=I (n:Int)
theorem BM (l:List Nat):AV.plainL (l.map NV)=true:=by
 induction l with
 | nil=>rfl
 | cons a l ih=>simp[AV.plainL,ih];rfl
theorem KO (l:List Bool):AV.plainL (l.map AV.bool)=true:=by
 induction l with
 | nil=>rfl
 | cons a l ih=>simp[AV.plainL,ih];rfl
def Leads (ins:List Ins):Prop:=∀ n i,ins[n]?=some i->(i.op=0∨i.op=1∨i.op=2∨i.op=3∨i.op=4∨i.op=5)/\(i.op=2∨i.op=3->0<=i.x/\i.x.toNat<ins.length)/\(i.op=2->0<=i.y/\i.y.toNat<ins.length)/\(i.op=1∨i.op=4∨i.op=5->n+1<ins.length)
abbrev capL:List AV:=[.rf 5 1 0 0,.rf 4 1 0 0,.rf 0 1 0 0,.rf 1 1 0 0,.rf 6 1 0 0]
abbrev hpL (ins:List Ins) (s:VS) (K:List MB):List MB:=
 .row 1 [.sl false (ins.map insAV)] 0::.row 1 [.ms 2 1 s.r.length 0 s.r.length] 0::.row 1 (s.r.map NV) 0::.row 1 (s.a.map AV.bool) 0 ::
  .row 1 [.ms 3 1 ins.length 0 ins.length] 0::.row 1 [.bool s.c] 0::.row 1 [.clo 69 capL] 0::K
theorem Ic {α:Type} (K:List α) (x:α):(K++[x])[K.length]?=some x:=by simp
theorem NH {α:Type} (K:List α) (x y:α):(K++[x]).set K.length y=K++[y]:=by simp
theorem Qr {s:VS}{n N:Nat} (hs:s.Ok N) (hn:n<N):∃ b,s.a[n]?=some b:=⟨_,getElem?_eq_getElem (by rw[hs.len];exact hn)⟩
abbrev args46 (t:Bool) (ns:List Nat):List AV:=.sl t (ns.map NV)::capL
theorem P3 (ins:List Ins) (s s':VS) (K K':List MB):keptOk (hpL ins s K).length (hpL ins s K) (hpL ins s' (K++K'))=true:=by
 have h:∀(n:Nat) (K:List MB),keptOk n K (K++K')=true:=by
  intro n K
  induction K with
  | nil=>cases K'<;>rfl
  | cons x K ih=>simp[keptOk,MB.beq_refl,ih]
 have hp1:=fun n=>AE n _ (BM s'.r);have hp2:=fun n=>AE n _ (KO s'.a);simp[keptOk,MB.beq_refl,h,MB.under,AV.underL,AV.under,hp1,hp2]
theorem Qi {H:List MB}{i n:Nat}{rs:List Nat}{c:Nat}{t:Bool} (hi:getRow H i=some (1,rs.map NV,0)) (hn:rs.length=n) (hr:n+1<=4000000000) :
  evAppend Pg H 22 22 (.ms i 1 n 0 n) (.sl t [NV c])=some (.ms i 1 (n+1) 0 (n+1),H.set i (.row 1 ((rs++[c]).map NV) 0)):=by
 have hs:srcElems Pg H 3 (.sl t [NV c])=some [NV c]:=rfl;rw[B6 (e:=3) (by kernel_rfl) (by kernel_rfl) (k:=1) (by kernel_rfl) (by_:=8) (by kernel_rfl) (ze:=I 0) (by kernel_rfl) rfl (by omega) hs rfl hi (by rw[List.length_map];exact hn) (zero_le _) (Ad (by simpa using hr) (by omega))];rw[map_append];rfl
theorem Js {ins:List Ins}{k j n:Nat}{ns:List Nat}{s:VS} (h:ns[j]?=some n):visits ins k (ns.take (j+1)) s=visit ins k n (visits ins k (ns.take j) s):=by
 rw[take_add_one,h];simp[visits]
theorem PG {s:VS}{n:Nat}{b:Bool} (h:s.a[n]?=some b):(s.a.map AV.bool)[n]?=some (.bool b):=by simp[h]
theorem Og {t:Bool}{l:List AV} (h:AV.plainL l=true) (H:List MB):fz (.sl t l) H=some (.sl false l,H):=by
 simp only[fz,fzA,BO _ _ _ h]
theorem fr46 (t:Bool) (l:List AV) (h:AV.plainL l=true) (H:List MB):frzArgs pol1 69 0 (.sl t l::capL) H=some (.sl false l::capL,H):=by
 have h1:frzArgs pol1 69 1 capL H=some (capL,H):=AL _ _ _ rfl;unfold frzArgs;rw[if_neg (show ¬ pol1.byref 69 0=true by decide),Og h];simp only;rw[h1]
theorem kf46 (ins:List Ins) (hl:ins.length<=1000000) (hw:Leads ins):∀(k:Nat) (t:Bool) (ns:List Nat) (s:VS) (K:List MB),ns.length<=1000000->(∀ n∈ns,n<ins.length)->s.Ok ins.length->s.open<k ->
  call Pg pol1 69 (args46 t ns) (hpL ins s K)=some (.tup [],hpL ins (visits ins k ns s) K):=by
 intro k
 induction k with
 | zero=>intro t ns s K _ _ _ h;omega
 | succ k ih=>
   intro t ns s K hnl hns hs ho;refine AO (pol:=pol1) Tryz.func69 rfl rfl rfl rfl (fr46 t _ (BM ns) _) ?_;simp +contextual (disch:=omega) only[Tryz.f69,dd69,go_sem,simprocAttr,evAppend,mu69,↓AD,↓AC,↓AB,↓AA];refine Dk (σ:=Nat×List MB) (M:=(mskOf (pol1.mask 69) (pol1.gc 69) (pol1.acts 69) 0 1)) rfl (fun x=>(⟨66,[(12,I (x.1:Nat)),(11,I (ns.length:Nat)),(10,.sl false (ns.map NV)),(5,.rf 6 1 0 0),(4,.rf 1 1 0 0),(3,.rf 0 1 0 0),(2,.rf 4 1 0 0),(1,.rf 5 1 0 0)],hpL ins (visits ins (k+1) (ns.take x.1) s) (K++x.2)⟩:St)) (fun x=>x.1<=ns.length) (fun x=>ns.length-x.1) (0,[]) ?_ (zero_le _) _ ?_
   ·rintro⟨j,K'⟩ hj;simp only at hj |-;obtain⟨hs1,ho1⟩:=hs.visits (ins:=ins) (k:=k+1) (ns:=ns.take j);by_cases hjl:j<ns.length
    ·obtain⟨n,hn⟩:∃ n,ns[j]?=some n:=⟨_,getElem?_eq_getElem hjl⟩;have hnN:=hns n (mem_of_getElem? hn);have hstep:=Js (ins:=ins) (k:=k+1) (s:=s) hn;generalize visits ins (k+1) (ns.take j) s=s1 at *;have hget:(ns.map NV)[j]?=some (NV n):=by simp[hn]
     obtain⟨b,hb⟩:=Qr hs1 hnN;have hb':=PG hb;have hlen:=hs1.len;have hsame:s1.c=true∨b=true->visits ins (k+1) (ns.take (j+1)) s=s1:=by
      intro h;rw[hstep];simp only[visit];rw[if_pos (by rcases h with h|h<;>simp[h,hb])]
     by_cases hc:s1.c=true
     ·simp +contextual (disch:=omega) only[Tryz.f69,dd69,go_sem,simprocAttr,evAppend,mu69,↓AD,↓AC,↓AB,↓AA,hget,hb',hc];exact⟨(j+1,K'),hjl,by show ns.length-(j+1)<_;omega,by rw[hsame (.inl hc)];rfl⟩
     have hc':s1.c=false:=by simpa using hc
     cases b with
     | true=>
       simp +contextual (disch:=omega) only[Tryz.f69,dd69,go_sem,simprocAttr,evAppend,mu69,↓AD,↓AC,↓AB,↓AA,hget,hb',hc',hlen];exact⟨(j+1,K'),hjl,by show ns.length-(j+1)<_;omega,by rw[hsame (.inr rfl)];rfl⟩
     | false=>
       obtain⟨i,hi⟩:∃ i,ins[n]?=some i:=⟨_,getElem?_eq_getElem hnN⟩;have hi':(ins.map insAV)[n]?=some (insAV i):=by simp[hi]
       obtain⟨w0,w1,w2,w3⟩:=hw n i hi;have hset:(s1.a.map AV.bool).set n (.bool true)=(s1.mark n).a.map AV.bool:=by simp[VS.mark,map_set]
       rw[show visit ins (k+1) n s1=_ by simp only[visit];rw[if_neg (by simp[hc',hb])],hi]at hstep;simp only at hstep;have hsm:=hs1.small;have happ:∀(x y:MB) (K:List MB) (t:Bool),evAppend Pg (x::y::.row 1 (s1.r.map NV) 0::K) 22 22 (.ms 2 1 s1.r.length 0 s1.r.length) (.sl t [NV n])=some (.ms 2 1 (s1.r.length+1) 0 (s1.r.length+1),x::y::.row 1 ((s1.r++[n]).map NV) 0::K):=
        fun x y K t=>Qi rfl rfl (by omega)
       have hgl:=fun x:MB=>Ic (K++K') x;have hsl:=fun x y:MB=>NH (K++K') x y;rw[length_append]at hgl hsl;have hom:=FV (s:=s1) (n:=n) (by simpa using hb);have hmk:=hs1.mark (n:=n);have hom2:(s1.mark n).open<k:=by omega
       have hcall:∀(ns:List Nat) (J:MB),ns.length<=1000000->(∀ n∈ns,n<ins.length)->call Pg pol1 69 (.sl true (ns.map NV)::capL)
         (.row 1 [.sl false (ins.map insAV)] 0::.row 1 [.ms 2 1 s1.r.length 0 s1.r.length] 0::.row 1 (s1.r.map NV) 0::.row 1 ((s1.mark n).a.map AV.bool) 0 ::
           .row 1 [.ms 3 1 ins.length 0 ins.length] 0::.row 1 [.bool false] 0::.row 1 [.clo 69 capL] 0::(K++K'++[J]))=some (.tup [],hpL ins (visits ins k ns (s1.mark n)) (K++K'++[J])):=by
        intro ns J h1 h2;have e:s1.mark n=⟨s1.r,s1.a.set n true,false⟩:=by simp[VS.mark,hc']
        rw[e]at hmk hom2 |-;exact ih true ns ⟨s1.r,s1.a.set n true,false⟩ (K++K'++[J]) h1 h2 hmk hom2
       by_cases h0:i.op=0
       ·rw[if_pos h0]at hstep;simp +contextual (disch:=omega) only[Tryz.f69,dd69,go_sem,simprocAttr,mu69,↓AD,↓AC,↓AB,↓AA,hget,hb',hc',hlen,hi',hset,h0,hgl,hsl,happ];refine⟨(j+1,K'++[.row 5 [.agg [I 0,I i.x,I i.y,I i.n,.sl false (i.set.map spanAV)]] 0]),hjl,by show ns.length-(j+1)<_;omega,?_⟩;rw[hstep];simp only[hpL,VS.found,VS.mark,length_append,length_cons,length_nil,<- append_assoc,map_append,map_cons,map_nil];rfl
       rw[if_neg h0]at hstep;by_cases h1:i.op=1
       ·rw[if_pos h1]at hstep;simp +contextual (disch:=omega) only[Tryz.f69,dd69,go_sem,simprocAttr,mu69,↓AD,↓AC,↓AB,↓AA,hget,hb',hc',hlen,hi',hset,h1,hgl,hsl,happ];refine⟨(j+1,K'++[.row 5 [.agg [I 1,I i.x,I i.y,I i.n,.sl false (i.set.map spanAV)]] 0]),hjl,by show ns.length-(j+1)<_;omega,?_⟩;rw[hstep];simp only[hpL,VS.found,VS.mark,length_append,length_cons,length_nil,<- append_assoc,map_append,map_cons,map_nil];rfl
       rw[if_neg h1]at hstep;by_cases h3:i.op=3
       ·rw[if_pos h3]at hstep;obtain⟨x1,x2⟩:=w1 (.inr h3);obtain⟨x,hx⟩:∃ x:Nat,i.x=x:=⟨i.x.toNat,by omega⟩;rw[hx]at hstep x2;simp only[Int.toNat_natCast]at hstep x2;have hc1:=fun J=>hcall [x] J (by simp) (by simpa using x2);simp only[map_cons,map_nil,Ge]at hc1;simp +contextual (disch:=omega) only[Tryz.f69,dd69,go_sem,simprocAttr,mu69,↓AD,↓AC,↓AB,↓AA,hget,hb',hc',hlen,hi',hset,h3,hgl,hsl,hx,hc1];refine⟨(j+1,K'++[.row 5 [.agg [I 3,I x,I i.y,I i.n,.sl false (i.set.map spanAV)]] 0]),hjl,by show ns.length-(j+1)<_;omega,?_⟩;rw[hstep,<- append_assoc];rfl
       rw[if_neg h3]at hstep;by_cases h2:i.op=2
       ·rw[if_pos h2]at hstep;obtain⟨x1,x2⟩:=w1 (.inl h2);obtain⟨y1,y2⟩:=w2 h2;obtain⟨x,hx⟩:∃ x:Nat,i.x=x:=⟨i.x.toNat,by omega⟩;obtain⟨y,hy⟩:∃ y:Nat,i.y=y:=⟨i.y.toNat,by omega⟩;rw[hx]at hstep x2;rw[hy]at hstep y2;simp only[Int.toNat_natCast]at hstep x2 y2;have hc1:=fun J=>hcall [x,y] J (by simp) (by simp[x2,y2]);simp only[map_cons,map_nil,LQ]at hc1;simp +contextual (disch:=omega) only[Tryz.f69,dd69,go_sem,simprocAttr,mu69,↓AD,↓AC,↓AB,↓AA,hget,hb',hc',hlen,hi',hset,h2,hgl,hsl,hx,hy,hc1];refine⟨(j+1,K'++[.row 5 [.agg [I 2,I x,I y,I i.n,.sl false (i.set.map spanAV)]] 0]),hjl,by show ns.length-(j+1)<_;omega,?_⟩;rw[hstep,<- append_assoc];rfl
       rw[if_neg h2]at hstep;by_cases h4:i.op=4
       ·rw[if_pos h4]at hstep;have x2:=w3 (.inr (.inl h4));have hc1:=fun J=>hcall [n+1] J (by simp) (by simpa using x2);simp only[map_cons,map_nil,Ge]at hc1;simp +contextual (disch:=omega) only[Tryz.f69,dd69,go_sem,simprocAttr,mu69,↓AD,↓AC,↓AB,↓AA,hget,hb',hc',hlen,hi',hset,h4,hgl,hsl,hc1];refine⟨(j+1,K'++[.row 5 [.agg [I 4,I i.x,I i.y,I i.n,.sl false (i.set.map spanAV)]] 0]),hjl,by show ns.length-(j+1)<_;omega,?_⟩;rw[hstep,<- append_assoc];rfl
       rw[if_neg h4]at hstep;have h5:i.op=5:=by omega
       simp +contextual (disch:=omega) only[Tryz.f69,dd69,go_sem,simprocAttr,mu69,↓AD,↓AC,↓AB,↓AA,hget,hb',hc',hlen,hi',hset,h5,hgl,hsl];refine⟨(j+1,K'++[.row 5 [.agg [I 5,I i.x,I i.y,I i.n,.sl false (i.set.map spanAV)]] 0]),hjl,by show ns.length-(j+1)<_;omega,?_⟩;rw[hstep,<- append_assoc];simp only[VS.mark,hc'];rfl
    ·simp +contextual (disch:=omega) only[Tryz.f69,dd69,go_sem,simprocAttr,evAppend,mu69,↓AD,↓AC,↓AB,↓AA];rw[take_of_length_le (by omega)];exact Bt rfl rfl rfl (P3 ins s _ K K') (by simp[hpL])
   ·simp only[List.take_zero,EU,List.append_nil];rfl
theorem QZ (ins:List Ins) (hl:ins.length<=1000000) (hw:Leads ins) (ns:List Nat) (hnl:ns.length<=1000000) (hns:∀ n∈ns,n<ins.length) (H:List MB) :
  call Pg pol1 36 [.sl false (ins.map insAV),.sl false (ns.map NV)] H=some (.sl false ((stateL ins ns).map NV),H):=by
 have hcall:=kf46 ins hl hw (ins.length+1) false ns (vs0 ins.length) [] hnl hns (JB _) (by rw[Jr];omega);have hpl:=AI ins;have hp2:=BM ns;refine AX Tryz.func36 rfl rfl rfl rfl rfl rfl (fun _=>rfl) (by simp[AV.plain,AV.plainL,hpl,hp2]) (by simp[AV.plain,BM]) ?_ H;have hs:=(JB ins.length).visits (ins:=ins) (k:=ins.length+1) (ns:=ns);unfold stateL;generalize hv:visits ins (ins.length+1) ns (vs0 ins.length)=s at *;simp only[vs0,args46,hpL,capL,length_nil,map_nil,map_replicate]at hcall;have hlen:=hs.1.len;have hsm:=hs.1.small;simp +contextual (disch:=omega) only[Tryz.f36,dd36,go_sem,simprocAttr,evAppend,mu36,↓AD,↓AC,↓AB,↓AA,hcall];exact⟨_,De (k:=1) (els:=s.r.map NV) rfl (by simp) (BM _)⟩
end
section
attribute [local go_sem] Av BG bndO bnd evEq eqCells not_false_eq_true not_true_eq_false Af size_empty length_append map_append tySzE head?_drop mul_one AR AY AP AS AT Ad
def acceptG (g:Prg):Int:=if validG g≠0 then validG g else if g.ins.any (fun i=>i.op==5) then 10 else 0
theorem kf27 (g:Prg) (hb:PrgB g) (H:List MB):call Pg pol1 33 [prgAV g] H=some (I (acceptG g),H):=by
 have hv:=f30 g hb;obtain⟨hl,hs⟩:=hb;refine AX Tryz.func33 rfl rfl rfl rfl rfl rfl (fun _=>rfl) (by simp[AV.plain,AV.plainL,AG,AF,AI,AK]) (by simp[AV.plain,AV.plainL,AG,AF,AI,AK]) ?_ H;unfold acceptG;by_cases h1:validG g=0
 ·rw[h1]at hv;rw[if_neg (by simp[h1])];simp +contextual (disch:=omega) only[Tryz.f33,dd33,go_sem,simprocAttr,evAppend,mu33,↓AD,↓AC,↓AB,↓AA,hv]
  refine Ae (M:=(mskOf (pol1.mask 33) (pol1.gc 33) (pol1.acts 33) 0 5)) rfl g.ins.length (fun i=>(⟨22,[(14,I i),(13,I g.ins.length),(12,.sl false (g.ins.map insAV))],[.row 3 [prgAV g] 0]⟩:St))
   (fun i=>∀ k p,k<i->g.ins[k]?=some p->p.op≠5) ?_ ?_ (fun k p h=>by omega) _ (by first|rfl|(refine BD rfl (by rfl) (by rfl) (by rfl) ?_ ?_<;>simp[AV.underL,AV.under,MB.under,AE,AH,AG,AF,AI,AK,-map_take]))
  ·intro i hi hg;obtain⟨p,hp⟩:∃ p,g.ins[i]?=some p:=⟨_,getElem?_eq_getElem hi⟩;have hp':(g.ins.map insAV)[i]?=some (insAV p):=by simp[hp]
   by_cases h5:p.op=5
   ·have:g.ins.any (fun i=>i.op==5)=true:=any_eq_true.2 ⟨p,mem_of_getElem? hp,by simp[h5]⟩;rw[this];simp +contextual (disch:=omega) only[Tryz.f33,dd33,go_sem,simprocAttr,evAppend,mu33,↓AD,↓AC,↓AB,↓AA,hp',h5];exact fzEq rfl rfl
   ·simp +contextual (disch:=omega) only[Tryz.f33,dd33,go_sem,simprocAttr,evAppend,mu33,↓AD,↓AC,↓AB,↓AA,hp',h5];refine⟨fun k q hk hq=>?_,(by first|rfl|(refine BD rfl (by rfl) (by rfl) (by rfl) ?_ ?_<;>simp[AV.underL,AV.under,MB.under,AE,AH,AG,AF,AI,AK,-map_take]))⟩;rcases Nat.lt_succ_iff_lt_or_eq.1 hk with h|rfl
    ·exact hg k q h hq
    ·rw[hp]at hq;cases hq;exact h5
  ·intro hg;have:g.ins.any (fun i=>i.op==5)=false:=by
    rw[List.any_eq_false];intro p hp;obtain⟨k,hk,e⟩:=List.getElem_of_mem hp;have:=hg k p hk (by rw[<- e];exact getElem?_eq_getElem hk);simp[this]
   rw[this];simp +contextual (disch:=omega) only[Tryz.f33,dd33,go_sem,simprocAttr,evAppend,mu33,↓AD,↓AC,↓AB,↓AA];exact fzEq rfl rfl
 ·rw[if_pos h1];simp +contextual (disch:=omega) only[Tryz.f33,dd33,go_sem,simprocAttr,evAppend,mu33,↓AD,↓AC,↓AB,↓AA,hv];exact fzEq rfl rfl
abbrev kB8 (n:Int):AV:=.int .u8 n
theorem E7 (l:List Int):AV.plainL (l.map kB8)=true:=by
 induction l with
 | nil=>rfl
 | cons a l ih=>simp[AV.plainL,ih];rfl
def keyI (l:List Nat):List Int:=l.flatMap fun n=>[((n / 256 % 256:Nat):Int),((n % 256:Nat):Int)]
def keyS (l:List Nat):ByteArray:=strB (keyI l)
theorem MD (l:List Int):bytesOf (l.map kB8)=some l:=by
 induction l with
 | nil=>rfl
 | cons a l ih=>simp only[map_cons,bytesOf,if_true,ih,Option.map_some]
theorem NJ (l:List Nat) (n:Nat):keyI (l++[n])=keyI l++[((n / 256 % 256:Nat):Int),((n % 256:Nat):Int)]:=by simp[keyI]
theorem Ka (l:List Nat):(keyI l).length=2*l.length:=by
 induction l with
 | nil=>rfl
 | cons a l ih=>simp only[keyI,List.flatMap_cons,length_append,length_cons,length_nil]at ih |-;omega
theorem shr8 (n:Nat):evShift .shr .i64 n 8=some (NV (n / 256)):=by
 simp only[evShift];simp;rw[Int.fdiv_eq_ediv_of_nonneg _ (by decide)];rfl
theorem QT (n:Nat):IntKind.u8.wrap n=((n % 256:Nat):Int):=by simp[IntKind.wrap,IntKind.signed,IntKind.bits]
theorem Q8 {H:List MB}{i n:Nat}{bs:List Int}{c d:Int}{t:Bool} (hi:getRow H i=some (1,bs.map kB8,0)) (hn:bs.length=n) (hr:n+2<=4000000000) :
  evAppend Pg H 139 139 (.ms i 1 n 0 n) (.sl t [kB8 c,kB8 d])=some (.ms i 1 (n+2) 0 (n+2),H.set i (.row 1 ((bs++[c,d]).map kB8) 0)):=by
 have hs:srcElems Pg H 5 (.sl t [kB8 c,kB8 d])=some [kB8 c,kB8 d]:=rfl;rw[B6 (e:=5) (by kernel_rfl) (by kernel_rfl) (k:=1) (by kernel_rfl) (by_:=1) (by kernel_rfl) (ze:=kB8 0) (by kernel_rfl) rfl (by omega) hs rfl hi (by rw[List.length_map];exact hn) (zero_le _) (Ad (by simpa using hr) (by omega))];rw[map_append];rfl
theorem kf51 (l:List Nat) (hl:l.length<=1000000) (H:List MB):call Pg pol1 37 [.sl false (l.map NV)] H=some (.str (keyS l),H):=by
 have hp:=BM l;refine AX Tryz.func37 rfl rfl rfl rfl rfl rfl (fun _=>rfl) (by simp[AV.plain,AV.plainL,hp]) (by simp[AV.plain]) ?_ H;simp +contextual (disch:=omega) only[Tryz.f37,dd37,go_sem,simprocAttr,evAppend,mu37,↓AD,↓AC,↓AB,↓AA];refine Ae (M:=(mskOf (pol1.mask 37) (pol1.gc 37) (pol1.acts 37) 0 3)) rfl l.length (fun i=>(⟨27,[(12,I i),(11,I l.length),(10,.sl false (l.map NV)),(3,.ms 0 1 (2*i) 0 (2*i))],[.row 1 ((keyI (l.take i)).map kB8) 0]⟩:St)) (fun i=>True) ?_ ?_ trivial _ ?_
 ·intro i hi _;obtain⟨n,hn⟩:∃ n,l[i]?=some n:=⟨_,getElem?_eq_getElem hi⟩;have hn':(l.map NV)[i]?=some (NV n):=by simp[hn]
  have hlen:(keyI (l.take i)).length=2*i:=by rw[Ka,List.length_take];omega
  have hnx:keyI (l.take (i+1))=keyI (l.take i)++[((n / 256 % 256:Nat):Int),((n % 256:Nat):Int)]:=by rw[take_add_one,hn];exact NJ _ _
  have happ:=fun(K:List MB) (c d:Int) (t:Bool)=>Q8 (H:=.row 1 ((keyI (l.take i)).map kB8) 0::K) (i:=0) (c:=c) (d:=d) (t:=t) rfl hlen (by omega);have h1:=shr8 n;have h2:=QT (n / 256);have h3:=QT n;simp +contextual (disch:=omega) only[Tryz.f37,dd37,go_sem,simprocAttr,mu37,↓AD,↓AC,↓AB,↓AA,hn',h1,h2,h3,happ];rw[hnx];exact(by first|rfl|(refine Ar (n:=2) (m:=⟨some [12,11,10,3],some 2,[]⟩) rfl rfl ?_ ?_ ?_<;>first|rfl|(simp[keepT,AV.underL,AV.under,MB.under,AE,AH,AJ,AG,AF,AI,AK,-map_take,-map_replicate,-map_set,Nat.mul_add,BM,E7];done)|(simp[keepT,AV.underL,AV.under,MB.under,AE,AH,AJ,AG,AF,AI,AK,-map_take,-map_replicate,-map_set,Nat.mul_add,BM,E7];omega)))
 ·intro _;have hlen:(keyI l).length=2*l.length:=Ka l;have hb:=MD (keyI l);rw[take_of_length_le (le_refl _)];have ht:((keyI l).map kB8).take (2*l.length)=(keyI l).map kB8:=take_of_length_le (by simp[hlen]);simp +contextual (disch:=omega) only[Tryz.f37,dd37,go_sem,simprocAttr,evAppend,mu37,↓AD,↓AC,↓AB,↓AA,hb,hlen,ht];exact fzEq rfl rfl
 ·simp only[List.take_zero,keyI,List.flatMap_nil,map_nil,Nat.mul_zero];exact(by first|rfl|(refine Ar (n:=2) (m:=⟨some [12,11,10,3],some 2,[]⟩) rfl rfl ?_ ?_ ?_<;>first|rfl|(simp[keepT,AV.underL,AV.under,MB.under,AE,AH,AJ,AG,AF,AI,AK,-map_take,-map_replicate,-map_set,BM,E7];done)|(simp[keepT,AV.underL,AV.under,MB.under,AE,AH,AJ,AG,AF,AI,AK,-map_take,-map_replicate,-map_set,BM,E7];omega)))
def afterL (ins:List Ins) (l:List Nat) (x:Int):List Nat:=l.flatMap fun n=>match ins[n]? with
 | some i=>if i.op=1/\hasSpan i.set x=true then [n+1] else []
 | none=>[]
theorem LO (ins:List Ins) (l:List Nat) (n:Nat) (x:Int):afterL ins (l++[n]) x=afterL ins l x++(match ins[n]? with
 | some i=>if i.op=1/\hasSpan i.set x=true then [n+1] else []
 | none=>[]):=by simp[afterL]
theorem Ho (ins:List Ins) (l:List Nat) (x:Int):(afterL ins l x).length<=l.length:=by
 induction l with
 | nil=>simp[afterL]
 | cons n l ih=>
   have:afterL ins (n::l) x=(match ins[n]? with
    | some i=>if i.op=1/\hasSpan i.set x=true then [n+1] else []
    | none=>[])++afterL ins l x:=by simp[afterL]
   rw[this,length_append,length_cons];split
   ·split<;>simp<;>omega
   ·simp;omega
theorem kf52 (ins:List Ins) (hl:ins.length<=1000000) (hs:∀ i∈ins,i.set.length<=1000000) (l:List Nat) (hll:l.length<=1000000) (hln:∀ n∈l,n<ins.length) (x:Int) (H:List MB) :
  call Pg pol1 38 [.sl false (ins.map insAV),.sl false (l.map NV),I x] H=some (.sl false ((afterL ins l x).map NV),H):=by
 have hp:=BM l;have hpi:=AI ins;refine AX Tryz.func38 rfl rfl rfl rfl rfl rfl (fun _=>rfl) (by simp[AV.plain,AV.plainL,hp,hpi]) (by simp[AV.plain,BM]) ?_ H;simp +contextual (disch:=omega) only[Tryz.f38,dd38,go_sem,simprocAttr,evAppend,mu38,↓AD,↓AC,↓AB,↓AA];refine Ae (M:=(mskOf (pol1.mask 38) (pol1.gc 38) (pol1.acts 38) 0 3)) rfl l.length (fun i=>(⟨38,[(12,I i),(11,I l.length),(10,.sl false (l.map NV)),(7,.ms 0 1 (afterL ins (l.take i) x).length 0 (afterL ins (l.take i) x).length),(2,I x),(0,.sl false (ins.map insAV))],[.row 1 ((afterL ins (l.take i) x).map NV) 0]⟩:St)) (fun i=>True) ?_ ?_ trivial _ ?_
 ·intro i hi _;obtain⟨n,hn⟩:∃ n,l[i]?=some n:=⟨_,getElem?_eq_getElem hi⟩;have hn':(l.map NV)[i]?=some (NV n):=by simp[hn]
  have hnN:=hln n (mem_of_getElem? hn);obtain⟨p,hq⟩:∃ p,ins[n]?=some p:=⟨_,getElem?_eq_getElem hnN⟩;have hq':(ins.map insAV)[n]?=some (insAV p):=by simp[hq]
  have hnx:afterL ins (l.take (i+1)) x=afterL ins (l.take i) x++(if p.op=1/\hasSpan p.set x=true then [n+1] else []):=by rw[take_add_one,hn];exact(LO _ _ _ _).trans (by rw[hq])
  have hlen:=Ho ins (l.take i) x;rw[List.length_take]at hlen;rw[hnx];generalize afterL ins (l.take i) x=r at *;have happ:=fun(K:List MB) (t:Bool)=>Qi (H:=.row 1 (r.map NV) 0::K) (i:=0) (c:=n+1) (t:=t) rfl rfl (by omega);have hf:=f43 p.set x (hs p (mem_of_getElem? hq));by_cases h1:p.op=1
  ·cases h2:hasSpan p.set x with
   | true=>
     rw[h2]at hf;rw[if_pos ⟨h1,rfl⟩];simp +contextual (disch:=omega) only[Tryz.f38,dd38,go_sem,simprocAttr,mu38,↓AD,↓AC,↓AB,↓AA,hn',hq',h1,hf,happ];exact(by first|rfl|(refine Ar (n:=1) (m:=⟨some [12,11,10,7,2,0],some 1,[]⟩) rfl rfl ?_ ?_ ?_<;>first|rfl|(simp[keepT,AV.underL,AV.under,MB.under,AE,AH,AJ,AG,AF,AI,AK,-map_take,-map_replicate,-map_set,BM];done)|(simp[keepT,AV.underL,AV.under,MB.under,AE,AH,AJ,AG,AF,AI,AK,-map_take,-map_replicate,-map_set,BM];omega)))
   | false=>
     rw[h2]at hf;rw[if_neg (by simp)];simp +contextual (disch:=omega) only[Tryz.f38,dd38,go_sem,simprocAttr,mu38,↓AD,↓AC,↓AB,↓AA,hn',hq',h1,hf];exact(by first|rfl|(refine Ar (n:=1) (m:=⟨some [12,11,10,7,2,0],some 1,[]⟩) rfl rfl ?_ ?_ ?_<;>first|rfl|(simp[keepT,AV.underL,AV.under,MB.under,AE,AH,AJ,AG,AF,AI,AK,-map_take,-map_replicate,-map_set,BM];done)|(simp[keepT,AV.underL,AV.under,MB.under,AE,AH,AJ,AG,AF,AI,AK,-map_take,-map_replicate,-map_set,BM];omega)))
  ·rw[if_neg (by simp[h1])];simp +contextual (disch:=omega) only[Tryz.f38,dd38,go_sem,simprocAttr,mu38,↓AD,↓AC,↓AB,↓AA,hn',hq',h1];exact(by first|rfl|(refine Ar (n:=1) (m:=⟨some [12,11,10,7,2,0],some 1,[]⟩) rfl rfl ?_ ?_ ?_<;>first|rfl|(simp[keepT,AV.underL,AV.under,MB.under,AE,AH,AJ,AG,AF,AI,AK,-map_take,-map_replicate,-map_set,BM];done)|(simp[keepT,AV.underL,AV.under,MB.under,AE,AH,AJ,AG,AF,AI,AK,-map_take,-map_replicate,-map_set,BM];omega)))
 ·intro _;rw[take_of_length_le (le_refl _)];simp +contextual (disch:=omega) only[Tryz.f38,dd38,go_sem,simprocAttr,evAppend,mu38,↓AD,↓AC,↓AB,↓AA];exact⟨_,De (k:=1) (els:=(afterL ins l x).map NV) rfl (by simp) (BM _)⟩
 ·simp only[List.take_zero,afterL,List.flatMap_nil,map_nil,length_nil];exact(by first|rfl|(refine Ar (n:=1) (m:=⟨some [12,11,10,7,2,0],some 1,[]⟩) rfl rfl ?_ ?_ ?_<;>first|rfl|(simp[keepT,AV.underL,AV.under,MB.under,AE,AH,AJ,AG,AF,AI,AK,-map_take,-map_replicate,-map_set,BM];done)|(simp[keepT,AV.underL,AV.under,MB.under,AE,AH,AJ,AG,AF,AI,AK,-map_take,-map_replicate,-map_set,BM];omega)))
end
end Go.Ev
/- The reference's search for a state: the plain laws. -/
namespace Go.Ev
def rvisit (ins:List Ins):Nat->Nat->List Nat×List Nat->List Nat×List Nat
 | 0,_,s=>s
 | k+1,n,s=>
   if n∈s.2 then s
   else match ins[n]? with
    | none=>s
    | some i=>
      if i.op=2 then rvisit ins k i.y.toNat (rvisit ins k i.x.toNat (s.1,s.2++[n]))
      else if i.op=3 then rvisit ins k i.x.toNat (s.1,s.2++[n])
      else if i.op=4 then rvisit ins k (n+1) (s.1,s.2++[n])
      else(s.1++[n],s.2++[n])
def rvisits (ins:List Ins) (k:Nat) (ns:List Nat) (s:List Nat×List Nat):List Nat×List Nat:=ns.foldl (fun s n=>rvisit ins k n s) s
def isDone (ins:List Ins) (n:Nat):Bool:=match ins[n]? with
 | some i=>i.op==0
 | none=>false
def kcutL (ins:List Ins):List Nat->List Nat
 | []=>[]
 | n::l=>n::(if isDone ins n=true then [] else kcutL ins l)
theorem If {ins:List Ins}{n:Nat} (hn:isDone ins n=true):∀ {l:List Nat},(∀ n∈l,isDone ins n=false)->kcutL ins (l++[n])=l++[n]
 | [],_=>by simp[kcutL]
 | m::l,h=>by
   have h1:=h m (.head _);simp only[cons_append,kcutL,h1,Bool.false_eq_true,if_false];rw[If hn fun m hm=>h m (.tail _ hm)]
theorem HC {ins:List Ins} (m:List Nat):∀ {l:List Nat},(∃ n∈l,isDone ins n=true)->kcutL ins (l++m)=kcutL ins l
 | [],h=>by obtain⟨n,hn,_⟩:=h;cases hn
 | n::l,h=>by
   simp only[cons_append,kcutL];split
   ·rfl
   ·rename_i h1;rw[HC m];obtain⟨x,hx,hd⟩:=h;rcases mem_cons.1 hx with rfl|hx
    ·exact absurd hd h1
    ·exact⟨x,hx,hd⟩
theorem Cy (ins:List Ins):∀(k n:Nat) (s:List Nat×List Nat),∃ m,(rvisit ins k n s).1=s.1++m
 | 0,n,s=>⟨[],by simp[rvisit]⟩
 | k+1,n,s=>by
   simp only[rvisit];split
   ·exact⟨[],by simp⟩
   split
   ·exact⟨[],by simp⟩
   rename_i i hi;split
   ·obtain⟨m1,h1⟩:=Cy ins k i.x.toNat (s.1,s.2++[n]);obtain⟨m2,h2⟩:=Cy ins k i.y.toNat (rvisit ins k i.x.toNat (s.1,s.2++[n]));exact⟨m1++m2,by rw[h2,h1,append_assoc]⟩
   split
   ·exact Cy ins k i.x.toNat (s.1,s.2++[n])
   split
   ·exact Cy ins k (n+1) (s.1,s.2++[n])
   ·exact⟨[n],rfl⟩
structure RV (ins:List Ins) (v:VS) (s:List Nat×List Nat):Prop where
 len:v.a.length=ins.length
 c:v.c=true->kcutL ins s.1=v.r/\∃ n∈s.1,isDone ins n=true
 o:v.c=false->s.1=v.r/\(∀ n∈s.1,isDone ins n=false)/\∀ n,v.a[n]?=some true↔n∈s.2
theorem RV.mark {ins:List Ins}{v:VS}{s:List Nat×List Nat} (h:RV ins v s) (hc:v.c=false) {n:Nat} (hn:n<ins.length):RV ins (v.mark n) (s.1,s.2++[n]):=by
 obtain⟨o1,o2,o3⟩:=h.o hc;refine⟨by simp[VS.mark,h.len],fun h1=>?_,fun _=>⟨o1,o2,fun m=>?_⟩⟩
 ·have:v.c=true:=h1;rw[hc]at this;cases this
 ·simp only[VS.mark,mem_append,mem_singleton];by_cases e:n=m
  ·subst e;rw[getElem?_set_self (by rw[h.len];exact hn)];simp
  ·rw[getElem?_set_ne e,o3 m];exact⟨.inl,fun h=>h.resolve_right (Ne.symm e)⟩
theorem RV.visit {ins:List Ins} (ho:∀ i∈ins,i.op=0∨i.op=1∨i.op=2∨i.op=3∨i.op=4):∀ {k n:Nat}{v:VS}{s:List Nat×List Nat},RV ins v s->RV ins (visit ins k n v) (rvisit ins k n s)
 | 0,n,v,s,h=>h
 | k+1,n,v,s,h=>by
   by_cases hc:v.c=true
   ·obtain⟨c1,c2⟩:=h.c hc;have e:Go.Ev.visit ins (k+1) n v=v:=by simp only[Go.Ev.visit];rw[if_pos (.inl hc)]
    obtain⟨m,hm⟩:=Cy ins (k+1) n s;rw[e];refine⟨h.len,fun _=>⟨by rw[hm,HC m c2];exact c1,?_⟩,fun h1=>by rw[hc]at h1;cases h1⟩;obtain⟨x,hx,hd⟩:=c2;exact⟨x,by rw[hm];exact List.mem_append_left _ hx,hd⟩
   ·have hc':v.c=false:=by simpa using hc
    obtain⟨o1,o2,o3⟩:=h.o hc';simp only[Go.Ev.visit,rvisit];by_cases hs:n∈s.2
    ·rw[if_pos hs,if_pos (.inr (by rw[(o3 n).2 hs];simp))];exact h
    ·rw[if_neg hs];cases hi:ins[n]? with
     | none=>
       simp only;have:Go.Ev.visit ins (k+1) n v=v:=by
        simp only[Go.Ev.visit];split
        ·rfl
        ·simp only[hi]
       split<;>exact h
     | some i=>
       have hn:=(List.getElem?_eq_some_iff.1 hi).1;have ha:v.a[n]?=some false:=by
        obtain⟨b,hb⟩:∃ b,v.a[n]?=some b:=⟨_,getElem?_eq_getElem (by rw[h.len];exact hn)⟩;cases b with
        | true=>exact absurd ((o3 n).1 hb) hs
        | false=>exact hb
       have hmk:=h.mark hc' hn;rw[if_neg (by simp[hc',ha])];simp only;have hd:isDone ins n=(i.op==0):=by simp[isDone,hi]
       by_cases h0:i.op=0
       ·rw[if_pos h0,if_neg (by omega),if_neg (by omega),if_neg (by omega)];refine⟨by simp[VS.found,h.len],fun _=>⟨?_,n,by simp,by simp[hd,h0]⟩,fun h1=>by cases h1⟩;rw[If (by simp[hd,h0]) o2,o1];rfl
       ·rw[if_neg h0];by_cases h1:i.op=1
        ·rw[if_pos h1,if_neg (by omega),if_neg (by omega),if_neg (by omega)];obtain⟨p1,p2,p3⟩:=hmk.o hc';refine⟨hmk.len,fun h2=>(by cases h2),fun _=>⟨by simp[VS.found,o1],fun m hm=>?_,p3⟩⟩;rcases mem_append.1 hm with hm|hm
         ·exact o2 m hm
         ·rw[mem_singleton.1 hm,hd];simp[h0]
        ·rw[if_neg h1];by_cases h3:i.op=3
         ·rw[if_pos h3,if_neg (by omega),if_pos h3];exact RV.visit ho hmk
         ·rw[if_neg h3];by_cases h2:i.op=2
          ·rw[if_pos h2,if_pos h2];exact RV.visit ho (RV.visit ho hmk)
          ·have h4:i.op=4:=by have:=ho i (mem_of_getElem? hi);omega
           rw[if_neg h2,if_pos h4,if_neg h2,if_neg h3,if_pos h4];exact RV.visit ho hmk
theorem RV.visits {ins:List Ins} (ho:∀ i∈ins,i.op=0∨i.op=1∨i.op=2∨i.op=3∨i.op=4) {k:Nat}:∀ {ns:List Nat}{v:VS}{s:List Nat×List Nat},RV ins v s->RV ins (visits ins k ns v) (rvisits ins k ns s)
 | [],v,s,h=>h
 | n::ns,v,s,h=>RV.visits ho (ns:=ns) (h.visit ho)
structure ROk (N:Nat) (s:List Nat×List Nat):Prop where
 lt:∀ n∈s.2,n<N
 nodup:s.2.Nodup
 one:s.1.length<=s.2.length
 sub:∀ n∈s.1,n<N
theorem ROk.small {N:Nat}{s:List Nat×List Nat} (h:ROk N s):s.2.length<=N:=IY h.nodup h.lt
theorem ROk.mark {N n:Nat}{s:List Nat×List Nat} (h:ROk N s) (hn:n<N) (hs:n ∉ s.2):ROk N (s.1,s.2++[n]):=
 ⟨fun m hm=>by
   rcases mem_append.1 hm with h1|h1
   ·exact h.lt m h1
   ·rw[mem_singleton.1 h1];exact hn,
  List.nodup_append.2 ⟨h.nodup,by simp,fun x hx y hy e=>by rw[mem_singleton.1 hy]at e;exact hs (e ▸ hx)⟩,
  by have:=h.one;simp;omega,h.sub⟩
theorem ROk.visit {ins:List Ins}:∀ {k n:Nat}{s:List Nat×List Nat},ROk ins.length s->ROk ins.length (rvisit ins k n s)/\s.2.length<=(rvisit ins k n s).2.length
 | 0,n,s,h=>⟨h,le_refl _⟩
 | k+1,n,s,h=>by
   simp only[rvisit];split
   ·exact⟨h,le_refl _⟩
   rename_i hs;split
   ·exact⟨h,le_refl _⟩
   rename_i i hi;have hn:=(List.getElem?_eq_some_iff.1 hi).1;have hm:=h.mark hn hs;split
   ·have h1:=ROk.visit (k:=k) (n:=i.x.toNat) hm;have h2:=ROk.visit (k:=k) (n:=i.y.toNat) h1.1;exact⟨h2.1,by have:=h1.2;have:=h2.2;simp at *;omega⟩
   split
   ·have h1:=ROk.visit (k:=k) (n:=i.x.toNat) hm;exact⟨h1.1,by have:=h1.2;simp at *;omega⟩
   split
   ·have h1:=ROk.visit (k:=k) (n:=n+1) hm;exact⟨h1.1,by have:=h1.2;simp at *;omega⟩
   ·refine⟨⟨hm.lt,hm.nodup,by have:=h.one;simp;omega,fun m hm'=>?_⟩,by simp⟩;rcases mem_append.1 hm' with h1|h1
    ·exact h.sub m h1
    ·rw[mem_singleton.1 h1];exact hn
theorem ROk.visits {ins:List Ins}{k:Nat}:∀ {ns:List Nat}{s:List Nat×List Nat},ROk ins.length s->ROk ins.length (rvisits ins k ns s)
 | [],s,h=>h
 | n::ns,s,h=>ROk.visits (ns:=ns) (h.visit (k:=k) (n:=n)).1
end Go.Ev
namespace Go.Ev
attribute [local go_sem] evBin AV.cells AV.ok frzB
section
attribute [local go_sem] evAppend Av BG bndO bnd evEq eqCells not_false_eq_true not_true_eq_false Af size_empty length_append map_append tySzE head?_drop mul_one AR AY AP AS AT Ad
structure CS where
 L:List (List Nat)
 made:Nat
 emptied:Nat
def CS.need (c:CS) (size:Nat) (l:List Nat):CS:=
 if l=[] then c
 else if l∈c.L then c
 else if c.L.length=size then⟨[l],c.made+1,c.emptied+1⟩
 else⟨c.L++[l],c.made+1,c.emptied⟩
structure Lay2 where
 st:Nat->Option (List Nat×Nat)
 nx:Nat->Option (List Nat)
def Lay2.le (a b:Lay2):Prop:=(∀ i x,a.st i=some x->b.st i=some x)/\(∀ i x,a.nx i=some x->b.nx i=some x)
abbrev stAV (b:Bool) (l:List Nat) (m:AV) (f:Nat):AV:=.agg [.sl b (l.map NV),m,NV f]
abbrev dfaAV (ins:List Ins) (first:List Nat) (size:Nat) (C:Nat) (c:CS):AV:=.agg [.sl false (ins.map insAV),.sl false (first.map NV),NV size,.mpr C,NV c.made,NV c.emptied]
structure DI (ins:List Ins) (first:List Nat) (size:Nat) (P:Nat->Prop) (D C:Nat) (a:Lay2) (c:CS) (H:List MB):Prop where
 d:H[D]?=some (.row 6 [dfaAV ins first size C c] 0)
 lo:(∀ i,P i->i<H.length)/\(¬ P D/\¬ P C)/\(∀ i x,a.st i=some x->¬ P i)/\(∀ i x,a.nx i=some x->¬ P i)
 cache:∃ es:List (AV×AV),H[C]?=some (.mp .str es)/\es.length=c.L.length/\∀(i:Nat) (l:List Nat),c.L[i]?=some l->l≠[]/\(∀ n∈l,n<65536)/\∃ t,es[i]?=some (AV.str (keyS l),AV.rf t 1 0 0)/\a.st t=some (l,c.emptied)
 st:∀ t l f,a.st t=some (l,f)->∃ b m,H[t]?=some (.row 3 [stAV b l m f] 0)/\(∀ n∈l,n<ins.length)/\l.length<=ins.length/\f<=c.emptied/\(l≠[]->f=c.emptied->l∈c.L)/\(l≠[]->b=false/\∃ q,m=.mpr q/\a.nx q=some l)
 nx:∀ q l,a.nx q=some l->∃ es,H[q]?=some (.mp (.int .i64) es)/\∀ k v,(k,v)∈es->∃ x t f,k=I x/\v=.rf t 1 0 0/\a.st t=some (stateL ins (afterL ins l x),f)
 small:c.made<=4000000000000/\c.emptied<=c.made/\c.L.length<=size/\1<=size/\size<=1024
theorem HM {x v:AV}{es:List (AV×AV)} (h:findMp x es=some v):∃ k,(k,v)∈es/\AV.beq k x=true:=by
 induction es with
 | nil=>cases h
 | cons p es ih=>
   obtain⟨k,u⟩:=p;simp only[findMp]at h;split at h
   ·rename_i hb;cases h;exact⟨k,.head _,hb⟩
   ·obtain⟨k',h1,h2⟩:=ih h;exact⟨k',.tail _ h1,h2⟩
theorem Mw {x v k u:AV}{es:List (AV×AV)} (h:(k,u)∈updMp x v es):(k,u)∈es∨(u=v/\(k=x∨AV.beq k x=true)):=by
 induction es with
 | nil=>
   simp only[updMp,mem_singleton,Prod.mk.injEq]at h;exact .inr ⟨h.2,.inl h.1⟩
 | cons p es ih=>
   obtain⟨k',u'⟩:=p;simp only[updMp]at h;split at h
   ·rename_i hb;rcases mem_cons.1 h with h|h
    ·cases h;exact .inr ⟨rfl,.inr hb⟩
    ·exact .inl (.tail _ h)
   ·rcases mem_cons.1 h with h|h
    ·cases h;exact .inl (.head _)
    ·rcases ih h with h|h
     ·exact .inl (.tail _ h)
     ·exact .inr h
theorem Ms {k:AV}{b:ByteArray}:AV.beq k (.str b)=true↔k=.str b:=by
 cases k<;>simp[AV.beq]
theorem Qh {k:AV}{b:Int}:AV.beq k (I b)=true↔k=I b:=by
 cases k<;>simp[AV.beq]
theorem KY:∀ {a b:List Int},(∀ x∈a,0<=x/\x<256)->(∀ x∈b,0<=x/\x<256)->a.map (fun n=>UInt8.ofNat n.toNat)=b.map (fun n=>UInt8.ofNat n.toNat)->a=b
 | [],[],_,_,_=>rfl
 | [],_::_,_,_,h=>by simp at h
 | _::_,[],_,_,h=>by simp at h
 | x::a,y::b,ha,hb,h=>by
   simp only[map_cons,List.cons.injEq]at h;have hx:=ha x (.head _);have hy:=hb y (.head _);have h1:x=y:=by
    have:=congrArg UInt8.toNat h.1;simp at this;omega
   rw[h1,KY (fun z hz=>ha z (.tail _ hz)) (fun z hz=>hb z (.tail _ hz)) h.2]
theorem Nx {a b:List Int} (ha:∀ x∈a,0<=x/\x<256) (hb:∀ x∈b,0<=x/\x<256) (h:strB a=strB b):a=b:=by
 simp only[strB,ByteArray.mk.injEq,Array.mk.injEq]at h;exact KY ha hb (by simpa using h)
theorem G9 (l:List Nat):∀ x∈keyI l,0<=x/\x<256:=by
 intro x hx;simp only[keyI,List.mem_flatMap,mem_cons,List.not_mem_nil,or_false]at hx;obtain⟨n,_,h|h⟩:=hx<;>omega
theorem Kb:∀ {a b:List Nat},(∀ n∈a,n<65536)->(∀ n∈b,n<65536)->keyI a=keyI b->a=b
 | [],[],_,_,_=>rfl
 | [],_::_,_,_,h=>by simp[keyI]at h
 | _::_,[],_,_,h=>by simp[keyI]at h
 | x::a,y::b,ha,hb,h=>by
   simp only[keyI,List.flatMap_cons,cons_append,List.nil_append,List.cons.injEq]at h;have hx:=ha x (.head _);have hy:=hb y (.head _);have h1:x=y:=by omega
   rw[h1,Kb (fun z hz=>ha z (.tail _ hz)) (fun z hz=>hb z (.tail _ hz)) h.2.2]
theorem Ob {a b:List Nat} (ha:∀ n∈a,n<65536) (hb:∀ n∈b,n<65536) (h:keyS a=keyS b):a=b:=
 Kb ha hb (Nx (G9 a) (G9 b) h)
def own2 (H:List MB) (D C:Nat) (x y:MB) (K:List MB):List MB:=(H.set D x).set C y++K
theorem OI {H:List MB}{D C:Nat} (hD:D<H.length) (hC:C<H.length) (hn:D≠C) (x y:MB) (K:List MB):(own2 H D C x y K)[D]?=some x:=by
 unfold own2;rw[List.getElem?_append_left (by simpa using hD),getElem?_set_ne (Ne.symm hn),getElem?_set_self hD]
theorem OJ {H:List MB}{D C:Nat} (hD:D<H.length) (hC:C<H.length) (hn:D≠C) (x y:MB) (K:List MB):(own2 H D C x y K)[C]?=some y:=by
 unfold own2;rw[List.getElem?_append_left (by simpa using hC),getElem?_set_self (by simpa using hC)]
theorem M8 {H:List MB}{D C:Nat} (hD:D<H.length) (hC:C<H.length) (hn:D≠C) (x y v:MB) (K:List MB):(own2 H D C x y K).set D v=own2 H D C v y K:=by
 unfold own2;rw[List.set_append_left _ _ (by simpa using hD),List.set_comm _ _ (Ne.symm hn),List.set_set]
theorem M9 {H:List MB}{D C:Nat} (hD:D<H.length) (hC:C<H.length) (hn:D≠C) (x y v:MB) (K:List MB):(own2 H D C x y K).set C v=own2 H D C x v K:=by
 unfold own2;rw[List.set_append_left _ _ (by simpa using hC),List.set_set]
section
variable {H:List MB}{D C:Nat} (x y v:MB) (K:List MB)
theorem Dq:own2 H D C x y K++[v]=own2 H D C x y (K++[v]):=by simp[own2]
theorem DT:(own2 H D C x y K).length=H.length+K.length:=by simp[own2]
theorem JP {i:Nat} (h1:i≠D) (h2:i≠C) (hi:i<H.length):(own2 H D C x y K)[i]?=H[i]?:=by
 unfold own2;rw[List.getElem?_append_left (by simpa using hi),getElem?_set_ne (Ne.symm h2),getElem?_set_ne (Ne.symm h1)]
theorem KP {k:Nat}:(own2 H D C x y K)[H.length+k]?=K[k]?:=by
 unfold own2;rw[List.getElem?_append_right (by simp)];congr 1;simp
theorem NA (h1:H[D]?=some x) (h2:H[C]?=some y):own2 H D C x y []=H:=by
 unfold own2;rw[List.append_nil];have e1:H.set D x=H:=by
  apply List.ext_getElem?;intro q;by_cases e:D=q
  ·subst e;rw[getElem?_set_self (List.getElem?_eq_some_iff.1 h1).1,h1]
  ·rw[getElem?_set_ne e]
 rw[e1];apply List.ext_getElem?;intro q;by_cases e:C=q
 ·subst e;rw[getElem?_set_self (List.getElem?_eq_some_iff.1 h2).1,h2]
 ·rw[getElem?_set_ne e]
end
section
variable {ins:List Ins}{first:List Nat}{size:Nat}{P:Nat->Prop}{D C:Nat}{a:Lay2}{c:CS}{H:List MB}
theorem DI.find (h:DI ins first size P D C a c H) {l:List Nat} (hl:∀ n∈l,n<65536) {es:List (AV×AV)} (he:H[C]?=some (.mp .str es)) :
  (l∈c.L/\∃ t,findMp (.str (keyS l)) es=some (.rf t 1 0 0)/\a.st t=some (l,c.emptied))∨(l ∉ c.L/\findMp (.str (keyS l)) es=none):=by
 obtain⟨es',e1,e2,e3⟩:=h.cache;rw[he]at e1;cases e1;cases hf:findMp (.str (keyS l)) es with
 | some v=>
   obtain⟨k,m1,m2⟩:=HM hf;rw[Ms]at m2;subst m2;obtain⟨i,hi,hg⟩:=List.getElem_of_mem m1;obtain⟨l',hl'⟩:∃ l',c.L[i]?=some l':=⟨_,getElem?_eq_getElem (by omega)⟩;obtain⟨b1,b2,t,b3,b4⟩:=e3 i l' hl';rw[getElem?_eq_getElem hi,hg]at b3;simp only[Option.some.injEq,Prod.mk.injEq,AV.str.injEq]at b3;obtain⟨b5,rfl⟩:=b3;have:=Ob hl b2 b5;subst this;exact .inl ⟨mem_of_getElem? hl',t,rfl,b4⟩
 | none=>
   refine .inr ⟨fun hm=>?_,rfl⟩;obtain⟨i,hi,hg⟩:=List.getElem_of_mem hm;obtain⟨_,_,t,b3,_⟩:=e3 i l (by rw[<- hg];exact getElem?_eq_getElem hi);have hne:∀ {es:List (AV×AV)}{i:Nat}{k v:AV},es[i]?=some (k,v)->AV.beq k k=true->findMp k es≠none:=by
    intro es
    induction es with
    | nil=>intro i k v h;simp at h
    | cons p es ih=>
      intro i k v h hb;obtain⟨k',u'⟩:=p;simp only[findMp];split
      ·simp
      ·cases i with
       | zero=>simp at h;rename_i hx;rw[h.1]at hx;exact absurd hb hx
       | succ i=>exact ih (by simpa using h) hb
   exact hne b3 (Ms.2 rfl) hf
end
end
end Go.Ev
