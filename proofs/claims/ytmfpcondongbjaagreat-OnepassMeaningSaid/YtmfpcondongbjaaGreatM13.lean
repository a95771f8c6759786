/- What functions of the program compute; no further conditions. -/
import Derived.Test.YtmfpcondongbjaaGreatM12
set_option linter.unusedVariables false
set_option linter.unusedSimpArgs false
open List (all_eq_true any_eq_true append_assoc append_nil cons_append getElem?_eq_getElem head?_drop length_append length_cons length_eq_zero_iff length_map length_nil map_append map_cons map_nil map_set map_take mem_cons mem_cons_of_mem mem_of_getElem? nil_append prefix_refl)
open Nat (le_refl lt_or_ge lt_succ_self mul_one sub_self sub_zero)
open Array (size_empty)
open Go.Proofs Go.RowKit Go.IntWalk
set_option maxHeartbeats 16000000
set_option maxRecDepth 100000
namespace Go.Ev
attribute [local go_sem] BM evBin evMakeSlice AV.cells AV.ok
section
attribute [local go_sem] evAppend evBuild splice
def badAt (l:List (Int×Int)) (i:Nat):Bool:=
 match l[i]? with
 | some p=>!decide (0<=p.1/\p.1<=p.2/\p.2<=1114111)||(match i with
   | 0=>false
   | k+1=>match l[k]? with
     | some q=>decide (p.1-q.2<2)
     | none=>false)
 | none=>false
def refSpans (l:List (Int×Int)):Int:=if(List.range l.length).any (badAt l) then 1 else if 64<l.length then 4 else 0
theorem Do {l:List (Int×Int)}{i:Nat} (hi:i<l.length) (h:badAt l i=true):refSpans l=1:=by
 unfold refSpans;rw[if_pos];exact any_eq_true.2 ⟨i,List.mem_range.2 hi,h⟩
theorem Ef {l:List (Int×Int)} (h:∀ k,k<l.length->badAt l k=false):refSpans l=if 64<l.length then 4 else 0:=by
 unfold refSpans;rw[if_neg];intro h2;obtain⟨k,h3,h4⟩:=any_eq_true.1 h2;rw[h k (List.mem_range.1 h3)]at h4;cases h4
end
section
attribute [local go_sem] evAppend evBuild splice
theorem f91 (a b:Int) (H:List MB):call Pg pol1 154 [.agg [.int .i64 a,.int .i64 b]] H=some (.bool (decide (0<=a/\a<=b/\b<=1114111)),H):=by
 refine AT Tryz.func154 rfl rfl rfl rfl rfl rfl (fun _=>rfl) (by simp[AV.plain,AV.plainL,AF,AG,AH,AI]) (by simp[AV.plain,AV.plainL,AF,AG,AH,AI]) ?_ H;simp only[Tryz.f154,S7,go_sem,simprocAttr,SV];repeat' (first|intro _|apply And.intro|refine fzEq rfl ?_)
 all_goals (congr 1;simp only[decide_eq_decide,false_eq_decide_iff];omega)
theorem f121 (l:List (Int×Int)) (hl:l.length<=1000000) (H:List MB):call Pg pol1 137 [.sl false (l.map spanAV)] H=some (I (refSpans l),H):=by
 refine AT Tryz.func137 rfl rfl rfl rfl rfl rfl (fun _=>rfl) (by simp[AV.plain,AV.plainL,AF,AG,AH,AI]) (by simp[AV.plain,AV.plainL,AF,AG,AH,AI]) ?_ H;simp only[Tryz.f137,LB,go_sem,simprocAttr,Kh];refine Af (M:=(mskOf (pol1.mask 137) (pol1.gc 137) (pol1.acts 137) 0 2)) rfl l.length (fun i=>(⟨35,[(7,I i),(6,I l.length),(5,.sl false (l.map spanAV)),(0,.sl false (l.map spanAV))],[]⟩:St)) (fun i=>∀ k,k<i->badAt l k=false) ?_ ?_ (fun k h=>by omega) _ (by first|rfl|(refine A0 rfl (by rfl) (by rfl) (by rfl) ?_ ?_<;>simp[AV.underL,AV.under,MB.under,AE,AJ,AF,AG,AH,AI,-map_take]))
 ·intro i hlt hg;obtain⟨p,hp⟩:∃ p,l[i]?=some p:=⟨_,getElem?_eq_getElem hlt⟩;have ext:badAt l i=false->∀ k,k<i+1->badAt l k=false:=fun h k hk=>by
   rcases lt_or_ge k i with h1|h1
   ·exact hg k h1
   ·obtain rfl:k=i:=by omega
    exact h
  by_cases hgd:0<=p.1/\p.1<=p.2/\p.2<=1114111
  ·rcases i with _|i
   ·simp +contextual (disch:=omega) only[Tryz.f137,LB,go_sem,simprocAttr,Kh,↓AD,↓AC,↓AB,↓AA,hp,spanAV,hgd,f91];refine⟨by unfold dOk;kernel_rfl,ext ?_,(by first|rfl|(refine A0 rfl (by rfl) (by rfl) (by rfl) ?_ ?_<;>simp[AV.underL,AV.under,MB.under,AE,AJ,AF,AG,AH,AI,-map_take]))⟩;simp[badAt,hp,hgd]
   ·obtain⟨q,hq⟩:∃ q,l[i]?=some q:=⟨_,getElem?_eq_getElem (by omega)⟩;have hbq:=hg i (by omega);simp only[badAt,hq,Bool.or_eq_false_iff,Bool.not_eq_false',decide_eq_true_eq]at hbq
    replace hbq:=hbq.1
    have hb:badAt l (i+1)=decide (p.1-q.2<2):=by simp[badAt,hp,hq,hgd]
    simp +contextual (disch:=omega) only[Tryz.f137,LB,go_sem,simprocAttr,Kh,↓AD,↓AC,↓AB,↓AA,hp,hq,spanAV,hgd,f91];refine⟨by unfold dOk;kernel_rfl,fun h=>fzEq rfl ?_,fun h=>⟨ext ?_,(by first|rfl|(refine A0 rfl (by rfl) (by rfl) (by rfl) ?_ ?_<;>simp[AV.underL,AV.under,MB.under,AE,AJ,AF,AG,AH,AI,-map_take]))⟩⟩
    ·rw[Do hlt];simp[hb];omega
    ·simp[hb];omega
  ·simp +contextual (disch:=omega) only[Tryz.f137,LB,go_sem,simprocAttr,Kh,↓AD,↓AC,↓AB,↓AA,hp,spanAV,hgd,f91];refine⟨by unfold dOk;kernel_rfl,fzEq rfl ?_⟩;rw[Do hlt (by simp only[badAt,hp];simp only[hgd,decide_false,Bool.not_false,Bool.true_or])]
 ·intro hg;rw[Ef hg];simp +contextual (disch:=omega) only[Tryz.f137,LB,go_sem,simprocAttr,Kh,↓AD,↓AC,↓AB,↓AA];refine⟨fun h=>fzEq rfl ?_,fun h=>fzEq rfl ?_⟩
  ·rw[if_pos (by omega)]
  ·rw[if_neg (by omega)]
end
section
attribute [local go_sem] evAppend evBuild splice
def lastOk (l:List (Int×Int)) (top:Int):Bool:=
 match l[l.length-1]? with
 | some p=>decide (p.2<=top)
 | none=>true
def okIns (n:Nat) (caps:Int) (runes:Bool) (i:Ins):Bool:=
 (i.op==1||i.set.length==0)&&(i.op==2||i.y==0)&&(i.op==2||i.op==3||i.x==0)&&(i.op==4||i.op==5||i.n==0) &&
 (i.op==0||(i.op==1&&(refSpans i.set==0&&lastOk i.set (if runes then 1114111 else 255))) ||
  (i.op==2&&(decide (0<=i.x)&&decide (i.x<n)&&decide (0<=i.y)&&decide (i.y<n)))||(i.op==3&&(decide (0<=i.x)&&decide (i.x<n))) ||
  (i.op==4&&(decide (0<=i.n)&&decide (i.n<2*caps)))||(i.op==5&&(decide (0<=i.n)&&decide (i.n<=5))))
end
section
attribute [local go_sem] evAppend evBuild splice Ae Al bndO bnd evEq eqCells not_false_eq_true not_true_eq_false AX size_empty length_append map_append
def PrgB (g:Prg):Prop:=g.ins.length<=1000000/\∀ i∈g.ins,i.set.length<=1000000
def lastGood (g:Prg):Bool:=match g.ins[g.ins.length-1]? with
 | some i=>i.op==0||i.op==2||i.op==3
 | none=>false
def validG (g:Prg):Int:=
 if 8192<g.ins.length then 4
 else if g.ins.length=0∨g.caps<0∨9<g.caps then 1
 else if g.ins.all (okIns g.ins.length g.caps g.runes)&&lastGood g then 0 else 1
theorem LU {g:Prg} (h1:¬ 8192<g.ins.length) {k:Nat}{i:Ins} (hk:g.ins[k]?=some i) (hb:okIns g.ins.length g.caps g.runes i=false):validG g=1:=by
 have:(g.ins.all (okIns g.ins.length g.caps g.runes))=false:=by
  rw[List.all_eq_false];exact⟨i,mem_of_getElem? hk,by simp[hb]⟩
 simp[validG,h1,this]
theorem KA {g:Prg} (h1:¬ 8192<g.ins.length) (h2:¬(g.ins.length=0∨g.caps<0∨9<g.caps)) (ha:∀ k i,k<g.ins.length->g.ins[k]?=some i->okIns g.ins.length g.caps g.runes i=true) :
  validG g=if lastGood g then 0 else 1:=by
 have:(g.ins.all (okIns g.ins.length g.caps g.runes))=true:=by
  rw[all_eq_true];intro i hi;obtain⟨k,hk,e⟩:=List.getElem_of_mem hi;exact ha k i hk (by rw[<- e];exact getElem?_eq_getElem hk)
 unfold validG;rw[if_neg h1,if_neg h2,this,Bool.true_and]
end
section
attribute [local go_sem] evAppend evBuild splice Ae Al bndO bnd evEq eqCells not_false_eq_true not_true_eq_false AX size_empty length_append map_append
theorem f120 (g:Prg) (n:Int) (b:MB) (hl:g.ins.length<=1000000) :
  call Pg pol1 136 [.int .i64 n,.rf 0 1 0 0] [.row 3 [.agg [.sl false (g.ins.map insAV),I g.caps,.bool g.runes]] 0,b] =
   some (.bool (decide (0<=n/\n<g.ins.length)),[.row 3 [.agg [.sl false (g.ins.map insAV),I g.caps,.bool g.runes]] 0,b]):=by
 refine AP Tryz.func136 rfl rfl rfl rfl (by rfl) ?_;by_cases h:0<=n
 ·by_cases h2:n<g.ins.length
  all_goals
   simp +contextual (disch:=omega) only[Tryz.f136,Qx,go_sem,simprocAttr,Qk,↓AD,↓AC,↓AB,↓AA];refine(Bg rfl rfl rfl ?_ rfl).trans ?_
   ·simp[keptOk,MB.beq_refl]
   ·simp[h,h2]
 ·simp +contextual (disch:=omega) only[Tryz.f136,Qx,go_sem,simprocAttr,Qk,↓AD,↓AC,↓AB,↓AA];refine(Bg rfl rfl rfl ?_ rfl).trans ?_
  ·simp[keptOk,MB.beq_refl]
  ·simp[h]
theorem IC {l:List (Int×Int)} (h:refSpans l=0) {p:Int×Int} (hp:l[l.length-1]?=some p):p.2<=1114111:=by
 have hl:l.length-1<l.length:=(List.getElem?_eq_some_iff.1 hp).1;cases hb:badAt l (l.length-1) with
 | true=>rw[Do hl hb]at h;cases h
 | false=>
   simp only[badAt,hp,Bool.or_eq_false_iff,Bool.not_eq_false',decide_eq_true_eq]at hb;exact hb.1.2.2
theorem f69 (g:Prg) (i:Ins) (hc:0<=g.caps/\g.caps<=9) (hl:g.ins.length<=1000000) (hs:i.set.length<=1000000) (H:List MB) :
  call Pg pol1 103 [.agg [.sl false (g.ins.map insAV),I g.caps,.bool g.runes],.pt [I i.op,I i.x,I i.y,I i.n,.sl false (i.set.map spanAV)]] H=some (.bool (okIns g.ins.length g.caps g.runes i),H):=by
 refine AT Tryz.func103 rfl rfl rfl rfl rfl rfl (fun _=>rfl) (by simp[AV.plain,AV.plainL,AF,AG,AH,AI]) (by simp[AV.plain,AV.plainL,AF,AG,AH,AI]) ?_ H;obtain⟨op,x,y,n,set⟩:=i;simp only[]at hs;by_cases h1:op=1
 ·subst h1;rcases Nat.eq_zero_or_pos set.length with hz|hz
  ·obtain rfl:set=[]:=length_eq_zero_iff.1 hz;have ht:=f121 [] (by simp);have e:refSpans []=0:=by decide
   rw[e,map_nil]at ht;cases hr:g.runes
   all_goals
    simp +contextual (disch:=omega) only[Tryz.f103,GO,go_sem,simprocAttr,GB,↓AD,↓AC,↓AB,↓AA,prgAV,ht,hr];repeat' (first|intro _|apply And.intro|refine fzEq rfl (congrArg AV.bool ?_)|(unfold dOk;kernel_rfl)|(show (_&&_)=true;kernel_rfl)|(show (_||_)=true;kernel_rfl))
    all_goals (try rw[Bool.eq_iff_iff];try simp_all [okIns,lastOk];try omega)
  ·obtain⟨p,hp⟩:∃ p,set[set.length-1]?=some p:=⟨_,getElem?_eq_getElem (by omega)⟩;have ht:=f121 set hs;have hq:refSpans set=0->p.2<=1114111:=fun h=>IC h hp;cases hr:g.runes
   all_goals
    simp +contextual (disch:=omega) only[Tryz.f103,GO,go_sem,simprocAttr,GB,↓AD,↓AC,↓AB,↓AA,prgAV,ht,hr,hp,spanAV];repeat' (first|intro _|apply And.intro|refine fzEq rfl (congrArg AV.bool ?_)|(unfold dOk;kernel_rfl)|(show (_&&_)=true;kernel_rfl)|(show (_||_)=true;kernel_rfl))
    all_goals (try rw[Bool.eq_iff_iff];try simp_all [okIns,lastOk];try omega)
 by_cases h0:op=0
 ·subst h0;simp +contextual (disch:=omega) only[Tryz.f103,GO,go_sem,simprocAttr,GB,↓AD,↓AC,↓AB,↓AA,prgAV];repeat' (first|intro _|apply And.intro|refine fzEq rfl (congrArg AV.bool ?_)|(unfold dOk;kernel_rfl)|(show (_&&_)=true;kernel_rfl)|(show (_||_)=true;kernel_rfl))
  all_goals (try rw[Bool.eq_iff_iff];try simp_all [okIns,-length_eq_zero_iff];try omega)
 by_cases h2:op=2
 ·subst h2;simp +contextual (disch:=omega) only[Tryz.f103,GO,go_sem,simprocAttr,GB,↓AD,↓AC,↓AB,↓AA,prgAV,f120,hl];repeat' (first|intro _|apply And.intro|refine fzEq rfl (congrArg AV.bool ?_)|(unfold dOk;kernel_rfl)|(show (_&&_)=true;kernel_rfl)|(show (_||_)=true;kernel_rfl))
  all_goals (try rw[Bool.eq_iff_iff];try simp_all [okIns,-length_eq_zero_iff];try omega)
 by_cases h3:op=3
 ·subst h3;simp +contextual (disch:=omega) only[Tryz.f103,GO,go_sem,simprocAttr,GB,↓AD,↓AC,↓AB,↓AA,prgAV,f120,hl];repeat' (first|intro _|apply And.intro|refine fzEq rfl (congrArg AV.bool ?_)|(unfold dOk;kernel_rfl)|(show (_&&_)=true;kernel_rfl)|(show (_||_)=true;kernel_rfl))
  all_goals (try rw[Bool.eq_iff_iff];try simp_all [okIns,-length_eq_zero_iff];try omega)
 by_cases h4:op=4
 ·subst h4;simp +contextual (disch:=omega) only[Tryz.f103,GO,go_sem,simprocAttr,GB,↓AD,↓AC,↓AB,↓AA,prgAV];repeat' (first|intro _|apply And.intro|refine fzEq rfl (congrArg AV.bool ?_)|(unfold dOk;kernel_rfl)|(show (_&&_)=true;kernel_rfl)|(show (_||_)=true;kernel_rfl))
  all_goals (try rw[Bool.eq_iff_iff];try simp_all [okIns,-length_eq_zero_iff];try omega)
 by_cases h5:op=5
 ·subst h5;simp +contextual (disch:=omega) only[Tryz.f103,GO,go_sem,simprocAttr,GB,↓AD,↓AC,↓AB,↓AA,prgAV];repeat' (first|intro _|apply And.intro|refine fzEq rfl (congrArg AV.bool ?_)|(unfold dOk;kernel_rfl)|(show (_&&_)=true;kernel_rfl)|(show (_||_)=true;kernel_rfl))
  all_goals (try rw[Bool.eq_iff_iff];try simp_all [okIns,-length_eq_zero_iff];try omega)
 simp +contextual (disch:=omega) only[Tryz.f103,GO,go_sem,simprocAttr,GB,↓AD,↓AC,↓AB,↓AA,prgAV];repeat' (first|intro _|apply And.intro|refine fzEq rfl (congrArg AV.bool ?_)|(unfold dOk;kernel_rfl)|(show (_&&_)=true;kernel_rfl)|(show (_||_)=true;kernel_rfl))
 all_goals (try rw[Bool.eq_iff_iff];try simp_all [okIns,-length_eq_zero_iff];try omega)
end
section
attribute [local go_sem] evAppend evBuild splice Ae Al bndO bnd evEq eqCells not_false_eq_true not_true_eq_false AX size_empty length_append map_append tySzE head?_drop mul_one AQ AU AO AR AS AY
theorem f30 (g:Prg) (hb:PrgB g) (H:List MB):call Pg pol1 72 [.agg [.sl false (g.ins.map insAV),I g.caps,.bool g.runes]] H=some (I (validG g),H):=by
 obtain⟨hl,hs⟩:=hb;refine AT Tryz.func72 rfl rfl rfl rfl rfl rfl (fun _=>rfl) (by simp[AV.plain,AV.plainL,AF,AG,AH,AI]) (by simp[AV.plain,AV.plainL,AF,AG,AH,AI]) ?_ H;by_cases h1:8192<g.ins.length
 ·have e:validG g=4:=by simp[validG,h1]
  rw[e];simp +contextual (disch:=omega) only[Tryz.f72,dd72,go_sem,simprocAttr,mu72,↓AD,↓AC,↓AB,↓AA];exact fzEq rfl rfl
 by_cases h2:g.ins.length=0∨g.caps<0∨9<g.caps
 ·have e:validG g=1:=by unfold validG;rw[if_neg h1,if_pos h2]
  rw[e];simp +contextual (disch:=omega) only[Tryz.f72,dd72,go_sem,simprocAttr,mu72,↓AD,↓AC,↓AB,↓AA];repeat' (first|intro _|apply And.intro|exact fzEq rfl rfl)
  all_goals (exfalso;omega)
 simp +contextual (disch:=omega) only[Tryz.f72,dd72,go_sem,simprocAttr,mu72,↓AD,↓AC,↓AB,↓AA]
 refine Af (M:=(mskOf (pol1.mask 72) (pol1.gc 72) (pol1.acts 72) 0 6)) rfl g.ins.length (fun i=>(⟨49,[(25,I i),(24,I g.ins.length),(1,.rf 0 1 0 0)],[.row 3 [prgAV g] 0]⟩:St))
  (fun i=>∀ k p,k<i->g.ins[k]?=some p->okIns g.ins.length g.caps g.runes p=true) ?_ ?_ (fun k p h=>by omega) _ (by first|rfl|(refine A0 rfl (by rfl) (by rfl) (by rfl) ?_ ?_<;>simp[AV.underL,AV.under,MB.under,AE,AJ,AF,AG,AH,AI,-map_take]))
 ·intro i hi hg;obtain⟨p,hp⟩:∃ p,g.ins[i]?=some p:=⟨_,getElem?_eq_getElem hi⟩;have hsp:=hs p (mem_of_getElem? hp);have hf:=f69 g p (by omega) hl hsp;cases hok:okIns g.ins.length g.caps g.runes p
  ·rw[hok]at hf;simp +contextual (disch:=omega) only[Tryz.f72,dd72,go_sem,simprocAttr,mu72,↓AD,↓AC,↓AB,↓AA,hp,hf];refine⟨by unfold dOk;kernel_rfl,fzEq rfl ?_⟩;rw[LU h1 hp hok]
  ·rw[hok]at hf;simp +contextual (disch:=omega) only[Tryz.f72,dd72,go_sem,simprocAttr,mu72,↓AD,↓AC,↓AB,↓AA,hp,hf];refine⟨by unfold dOk;kernel_rfl,fun k q hk hq=>?_,(by first|rfl|(refine A0 rfl (by rfl) (by rfl) (by rfl) ?_ ?_<;>simp[AV.underL,AV.under,MB.under,AE,AJ,AF,AG,AH,AI,-map_take]))⟩;rcases lt_or_ge k i with h|h
   ·exact hg k q h hq
   ·obtain rfl:k=i:=by omega
    rw[hp]at hq;obtain rfl:=Option.some.inj hq;exact hok
 ·intro hg;rw[KA h1 h2 (fun k p hk hp=>hg k p hk hp)];obtain⟨p,hp⟩:∃ p,g.ins[g.ins.length-1]?=some p:=⟨_,getElem?_eq_getElem (by omega)⟩;have e:lastGood g=(p.op==0||p.op==2||p.op==3):=by simp[lastGood,hp]
  rw[e];simp +contextual (disch:=omega) only[Tryz.f72,dd72,go_sem,simprocAttr,mu72,↓AD,↓AC,↓AB,↓AA,hp];repeat' (first|intro _|apply And.intro|refine fzEq rfl ?_)
  all_goals (congr 1<;>simp<;>omega)
end
structure WS where
 seen:List Nat
 stops:List Nat
 tw:Bool
def nexts (i:Ins) (a:Nat):List Nat:=if i.op=2 then [i.x.toNat,i.y.toNat] else if i.op=3 then [i.x.toNat] else if i.op=4 then [a+1] else []
def stopB (i:Ins):Bool:=decide (i.op≠2)&&(decide (i.op≠3)&&decide (i.op≠4))
def stepS (w:WS) (i:Ins) (a:Nat):WS:=⟨w.seen++[a],if stopB i=true then w.stops++[a] else w.stops,false⟩
def vis (ins:List Ins):Nat->List Nat->WS->WS
 | _,[],w=>w
 | 0,_::_,w=>w
 | k+1,a::st,w=>if w.tw=true∨a∈w.seen then { w with tw:=true } else
   match ins[a]? with
   | none=>w
   | some i=>vis ins k (nexts i a++st) (stepS w i a)
def WS.Ok (w:WS) (n:Nat):Prop:=w.seen.Nodup/\∀ a∈w.seen,a<n
theorem De:∀ {n:Nat}{l:List Nat},l.Nodup->(∀ a∈l,a<n)->l.length<=n
 | 0,[],_,_=>le_refl _
 | 0,a::l,_,h=>absurd (h a (by simp)) (Nat.not_lt_zero _)
 | n+1,l,h1,h2=>by
   by_cases hm:n∈l
   ·have h3:=De (n:=n) (l:=l.erase n) (h1.erase n) (fun a ha=>by
     have:=h2 a (List.mem_of_mem_erase ha);have hne:a≠n:=fun e=>by rw[e]at ha;exact((List.Nodup.mem_erase_iff h1).1 ha).1 rfl
     omega)
    rw[List.length_erase_of_mem hm]at h3;omega
   ·have h3:=De (n:=n) h1 (fun a ha=>by
     have:=h2 a ha;have hne:a≠n:=fun e=>hm (e ▸ ha);omega)
    omega
theorem WS.Ok.len {w:WS}{n:Nat} (h:w.Ok n):w.seen.length<=n:=De h.1 h.2
theorem WS.Ok.step {w:WS}{ins:List Ins}{a:Nat}{i:Ins} (h:w.Ok ins.length) (hn:a ∉ w.seen) (hi:ins[a]?=some i):(stepS w i a).Ok ins.length:=by
 refine⟨?_,fun b hb=>?_⟩
 ·show (w.seen++[a]).Nodup;rw[List.nodup_append];exact⟨h.1,by simp,fun x hx y hy=>by simp at hy;subst hy;rintro rfl;exact hn hx⟩
 ·rcases List.mem_append.1 hb with hb|hb
  ·exact h.2 b hb
  ·simp at hb;subst hb;exact(List.getElem?_eq_some_iff.1 hi).1
theorem J9 (ins:List Ins):∀(k k':Nat) (s:List Nat) (w:WS),w.Ok ins.length->ins.length<k+w.seen.length->ins.length<k' + w.seen.length->vis ins k s w=vis ins k' s w
 | _,_,[],w,_,_,_=>by simp[vis]
 | 0,k',a::st,w,h,h1,_=>absurd h.len (by omega)
 | k+1,0,a::st,w,h,_,h1=>absurd h.len (by omega)
 | k+1,k' + 1,a::st,w,h,h1,h2=>by
   simp only[vis];split
   ·rfl
   ·rename_i hn;cases hi:ins[a]? with
    | none=>rfl
    | some i=>
      have hs:(stepS w i a).seen.length=w.seen.length+1:=by simp[stepS]
      exact J9 ins k k' _ _ (h.step (fun e=>hn (.inr e)) hi) (by rw[hs];omega) (by rw[hs];omega)
def visF (ins:List Ins) (s:List Nat) (w:WS):WS:=vis ins (ins.length+1) s w
theorem FB (ins:List Ins) (w:WS):visF ins [] w=w:=by simp[visF,vis]
theorem CZ {ins:List Ins}{a:Nat}{st:List Nat}{w:WS} (h:w.tw=true∨a∈w.seen):visF ins (a::st) w = { w with tw:=true }:=by
 simp[visF,vis,h]
theorem C5 {ins:List Ins}{a:Nat}{st:List Nat}{w:WS}{i:Ins} (hw:w.Ok ins.length) (h1:w.tw=false) (h2:a ∉ w.seen) (hi:ins[a]?=some i):visF ins (a::st) w=visF ins (nexts i a++st) (stepS w i a):=by
 have hs:(stepS w i a).seen.length=w.seen.length+1:=by simp[stepS]
 unfold visF;rw[show vis ins (ins.length+1) (a::st) w=vis ins ins.length (nexts i a++st) (stepS w i a) by simp[vis,h1,h2,hi]];exact J9 ins _ _ _ _ (hw.step h2 hi) (by rw[hs];omega) (by rw[hs];omega)
def In1 (ins:List Ins):Prop:=∀ n i,ins[n]?=some i->∀ b∈nexts i n,b<ins.length
theorem FC {ins:List Ins} (hin:In1 ins):∀(k:Nat) (s t:List Nat) (w:WS),w.Ok ins.length->ins.length<k+w.seen.length->(∀ a∈s,a<ins.length) ->
  visF ins (s++t) w=visF ins t (visF ins s w)/\(visF ins s w).Ok ins.length/\(w.tw=false->w.stops <+: (visF ins s w).stops)
 | 0,s,t,w,h,h1,_=>absurd h.len (by omega)
 | k+1,[],t,w,h,_,_=>by rw[FB];exact⟨rfl,h,fun _=>prefix_refl _⟩
 | k+1,a::s,t,w,h,h1,hs=>by
   by_cases hc:w.tw=true∨a∈w.seen
   ·rw[CZ hc,cons_append,CZ hc];refine⟨?_,h,fun _=>prefix_refl _⟩;cases t with
    | nil=>rw[FB]
    | cons b t=>rw[CZ (.inl rfl)]
   ·have h2:w.tw=false:=by cases hq:w.tw with
     | false=>rfl
     | true=>exact absurd (.inl hq) hc
    have h3:a ∉ w.seen:=fun e=>hc (.inr e);obtain⟨i,hi⟩:∃ i,ins[a]?=some i:=⟨_,getElem?_eq_getElem (hs a (by simp))⟩;rw[C5 h h2 h3 hi,cons_append,C5 h h2 h3 hi];have hl:(stepS w i a).seen.length=w.seen.length+1:=by simp[stepS]
    obtain⟨e1,e2,e3⟩:=FC hin k (nexts i a++s) t (stepS w i a) (h.step h3 hi) (by rw[hl];omega) (fun b hb=>by
     rcases List.mem_append.1 hb with hb|hb
     ·exact hin a i hi b hb
     ·exact hs b (mem_cons_of_mem _ hb))
    refine⟨by rw[<- e1,append_assoc],e2,fun _=>?_⟩;refine List.IsPrefix.trans ?_ (e3 rfl);simp only[stepS];split
    ·exact List.prefix_append _ _
    ·exact prefix_refl _
theorem MM {ins:List Ins} (hin:In1 ins) {s:List Nat}{w:WS} (h:w.Ok ins.length) (hs:∀ a∈s,a<ins.length):(visF ins s w).Ok ins.length:=
 (FC hin (ins.length+1) s [] w h (by omega) hs).2.1
def w0S:WS:=⟨[],[],false⟩
theorem JN (n:Nat):w0S.Ok n:=⟨List.nodup_nil,fun a h=>by simp[w0S]at h⟩
def fromS (ins:List Ins) (st:Nat):WS:=visF ins [st] w0S
end Go.Ev
namespace Go.Ev
attribute [local go_sem] BM evBin evMakeSlice AV.cells AV.ok
section
attribute [local go_sem] evAppend evBuild splice Ae Al bndO bnd evEq eqCells not_false_eq_true not_true_eq_false AX size_empty length_append map_append tySzE head?_drop mul_one AQ AU AO AR AS AY
theorem f140 (a:Int) (H:List MB):call Pg pol1 140 [I a] H=some (.bool false,H):=by
 refine AT Tryz.func140 rfl rfl rfl rfl rfl rfl (fun _=>rfl) (by simp[AV.plain,AV.plainL,AF,AG,AH,AI]) (by simp[AV.plain,AV.plainL,AF,AG,AH,AI]) ?_ H;simp +contextual (disch:=omega) only[Tryz.f140,TA,go_sem,simprocAttr,SY,↓AD,↓AC,↓AB,↓AA];exact fzEq rfl (by simp)
theorem f108 (a b:Int) (H:List MB):call Pg pol1 108 [I a,I b] H=some (I (cmpI a b),H):=by
 have h1:=f140 a;have h2:=f140 b;refine AT Tryz.func108 rfl rfl rfl rfl rfl rfl (fun _=>rfl) (by simp[AV.plain,AV.plainL,AF,AG,AH,AI]) (by simp[AV.plain,AV.plainL,AF,AG,AH,AI]) ?_ H;unfold cmpI;simp +contextual (disch:=omega) only[Tryz.f108,TI,go_sem,simprocAttr,Sg,↓AD,↓AC,↓AB,↓AA,h1,h2];exact⟨fun h=>fzEq rfl rfl,fun h=>⟨fun h=>fzEq rfl rfl,fun h=>fzEq rfl rfl⟩⟩
theorem f107 (p q:Int×Int) (H:List MB):call Pg pol1 107 [spanAV p,spanAV q] H=some (I (cmpI p.1 q.1),H):=by
 have h1:=f108 p.1 q.1;refine AT Tryz.func107 rfl rfl rfl rfl rfl rfl (fun _=>rfl) (by simp[AV.plain,AV.plainL,AF,AG,AH,AI]) (by simp[AV.plain,AV.plainL,AF,AG,AH,AI]) ?_ H;simp +contextual (disch:=omega) only[Tryz.f107,TJ,go_sem,simprocAttr,Sh,↓AD,↓AC,↓AB,↓AA,h1];exact fzEq rfl rfl
theorem f74 (i:Ins) (H:List MB):call Pg pol1 74 [insAV i] H=some (.bool (i.op==5),H):=by
 refine AT Tryz.func74 rfl rfl rfl rfl rfl rfl (fun _=>rfl) (by simp[AV.plain,AV.plainL,AF,AG,AH,AI]) (by simp[AV.plain,AV.plainL,AF,AG,AH,AI]) ?_ H;simp +contextual (disch:=omega) only[Tryz.f74,dd74,go_sem,simprocAttr,mu74,↓AD,↓AC,↓AB,↓AA];exact fzEq rfl rfl
theorem f77 (n:Int) (H:List MB):call Pg pol1 77 [I n] H=some (.bool true,H):=by
 refine AT Tryz.func77 rfl rfl rfl rfl rfl rfl (fun _=>rfl) (by simp[AV.plain,AV.plainL,AF,AG,AH,AI]) (by simp[AV.plain,AV.plainL,AF,AG,AH,AI]) ?_ H;simp +contextual (disch:=omega) only[Tryz.f77,dd77,go_sem,simprocAttr,mu77,↓AD,↓AC,↓AB,↓AA];exact fzEq rfl rfl
theorem f104 (l:List Ins) (hl:l.length<=1000000):∃ n:Int,(n >= 0↔l.any (fun i=>i.op==5)=true)/\∀ H,call Pg pol1 104 [.sl false (l.map insAV),.clo 74 []] H=some (I n,H):=by
 have hx:∃ r:AV,(∃ n:Int,r=I n/\(n >= 0↔l.any (fun i=>i.op==5)=true))/\∀ H,call Pg pol1 104 [.sl false (l.map insAV),.clo 74 []] H=some (r,H):=by
  refine CL Tryz.func104 rfl rfl rfl rfl rfl rfl (fun _=>rfl) (by simp[AV.plain,AV.plainL,AF,AG,AH,AI]) ?_ ?_
  ·rintro r ⟨n,rfl,_⟩;rfl
  ·simp +contextual (disch:=omega) only[Tryz.f104,M0,go_sem,simprocAttr,Ml,↓AD,↓AC,↓AB,↓AA];refine Af (M:=(mskOf (pol1.mask 104) (pol1.gc 104) (pol1.acts 104) 0 2)) rfl l.length (fun i=>(⟨19,[(8,I i),(7,I l.length),(1,.clo 74 []),(0,.sl false (l.map insAV))],[]⟩:St)) (fun i=>∀ k p,k<i->l[k]?=some p->p.op≠5) ?_ ?_ (fun k p h=>by omega) _ (by first|rfl|(refine A0 rfl (by rfl) (by rfl) (by rfl) ?_ ?_<;>simp[AV.underL,AV.under,MB.under,AE,AJ,AF,AG,AH,AI,-map_take]))
   ·intro i hi hg;obtain⟨p,hp⟩:∃ p,l[i]?=some p:=⟨_,getElem?_eq_getElem hi⟩;have hf:=f74 p;have hp':(l.map insAV)[i]?=some (insAV p):=by simp[hp]
    by_cases h5:p.op=5
    ·have:l.any (fun i=>i.op==5)=true:=any_eq_true.2 ⟨p,mem_of_getElem? hp,by simp[h5]⟩;rw[h5]at hf;simp +contextual (disch:=omega) only[Tryz.f104,M0,go_sem,simprocAttr,Ml,↓AD,↓AC,↓AB,↓AA,hp',hf];exact⟨_,⟨_,rfl,by simp[this]⟩,_,Au _ rfl⟩
    ·have h5':(p.op==5)=false:=by simp[h5]
     rw[h5']at hf;simp +contextual (disch:=omega) only[Tryz.f104,M0,go_sem,simprocAttr,Ml,↓AD,↓AC,↓AB,↓AA,hp',hf];refine⟨fun k q hk hq=>?_,(by first|rfl|(refine A0 rfl (by rfl) (by rfl) (by rfl) ?_ ?_<;>simp[AV.underL,AV.under,MB.under,AE,AJ,AF,AG,AH,AI,-map_take]))⟩;rcases Nat.lt_succ_iff_lt_or_eq.1 hk with h|rfl
     ·exact hg k q h hq
     ·rw[hp]at hq;cases hq;exact h5
   ·intro hg;have:l.any (fun i=>i.op==5)=false:=by
     rw[List.any_eq_false];intro p hp;obtain⟨k,hk,e⟩:=List.getElem_of_mem hp;have:=hg k p hk (by rw[<- e];exact getElem?_eq_getElem hk);simp[this]
    simp +contextual (disch:=omega) only[Tryz.f104,M0,go_sem,simprocAttr,Ml,↓AD,↓AC,↓AB,↓AA];exact⟨_,⟨_,rfl,by simp[this]⟩,_,Au _ rfl⟩
 obtain⟨r,⟨n,rfl,h1⟩,h2⟩:=hx;exact⟨n,h1,h2⟩
theorem f73 (l:List Ins) (hl:l.length<=1000000) (H:List MB):call Pg pol1 73 [.sl false (l.map insAV),.clo 74 []] H=some (.bool (l.any (fun i=>i.op==5)),H):=by
 obtain⟨n,h1,h2⟩:=f104 l hl;refine AT Tryz.func73 rfl rfl rfl rfl rfl rfl (fun _=>rfl) (by simp[AV.plain,AV.plainL,AH]) (by simp[AV.plain]) ?_ H;simp +contextual (disch:=omega) only[Tryz.f73,dd73,go_sem,simprocAttr,mu73,↓AD,↓AC,↓AB,↓AA,h2];refine fzEq rfl ?_;cases hb:l.any (fun i=>i.op==5) with
 | true=>simp[h1.2 hb]
 | false=>
   have:¬ n >= 0:=fun e=>by rw[h1.1 e]at hb;cases hb
   simp[this]
def acceptG (g:Prg):Int:=if validG g≠0 then validG g else if g.ins.any (fun i=>i.op==5) then 10 else 0
theorem f35 (g:Prg) (hb:PrgB g) (H:List MB):call Pg pol1 35 [prgAV g] H=some (I (acceptG g),H):=by
 have hv:=f30 g hb;obtain⟨hl,hs⟩:=hb;have hc:=f73 g.ins hl;refine AT Tryz.func35 rfl rfl rfl rfl rfl rfl (fun _=>rfl) (by simp[AV.plain,AV.plainL,AF,AG,AH,AI]) (by simp[AV.plain,AV.plainL,AF,AG,AH,AI]) ?_ H;unfold acceptG;by_cases h1:validG g=0
 ·rw[h1]at hv;rw[if_neg (by simp[h1])];cases hb:g.ins.any (fun i=>i.op==5)<;>rw[hb]at hc
  ·simp +contextual (disch:=omega) only[Tryz.f35,dd35,go_sem,simprocAttr,mu35,↓AD,↓AC,↓AB,↓AA,hv,hc];exact fzEq rfl rfl
  ·simp +contextual (disch:=omega) only[Tryz.f35,dd35,go_sem,simprocAttr,mu35,↓AD,↓AC,↓AB,↓AA,hv,hc];exact fzEq rfl rfl
 ·rw[if_pos h1];simp +contextual (disch:=omega) only[Tryz.f35,dd35,go_sem,simprocAttr,mu35,↓AD,↓AC,↓AB,↓AA,hv];exact fzEq rfl rfl
end
section
attribute [local go_sem] evAppend evBuild splice Ae Al bndO bnd evEq eqCells not_false_eq_true not_true_eq_false AX size_empty length_append map_append tySzE head?_drop mul_one AQ AU AO AR AS AY
abbrev NV (n:Nat):AV:=I (n:Int)
theorem FL (l:List Nat):AV.plainL (l.map NV)=true:=by
 induction l with
 | nil=>rfl
 | cons a l ih=>simp[AV.plainL,ih];rfl
theorem Bz (l:List Bool):AV.plainL (l.map AV.bool)=true:=by
 induction l with
 | nil=>rfl
 | cons a l ih=>simp[AV.plainL,ih];rfl
theorem EA (n:Nat):∀ K:List MB,keptOk n K K=true
 | []=>rfl
 | x::K=>by simp[keptOk,MB.beq_refl,EA n K]
theorem f76 (l:List Ins) (st:Nat) (f:Nat) (cs:List AV) (H:List MB):call Pg pol1 76 [.sl false (l.map insAV),NV st,.clo f cs] H =
  some (.clo 111 [.rf (H.length+1) 1 0 0,.rf (H.length+2) 1 0 0,.rf H.length 1 0 0],H++[.row 1 [.sl false (l.map insAV)] 0,.row 1 [NV st] 0,.row 1 [.clo f cs] 0]):=by
 refine AP (pol:=pol1) Tryz.func76 rfl rfl rfl rfl (AL H _ 0 (by
  have h1:AV.plain (.sl false (l.map insAV))=true:=by simp[AV.plain,AH]
  have h2:pol1.byref 76 2=true:=by kernel_rfl
  have h3:AV.plain (NV st)=true:=rfl;simp[mixOk,h1,h2,h3])) ?_
 simp +contextual (disch:=omega) only[Tryz.f76,dd76,go_sem,simprocAttr,mu76,↓AD,↓AC,↓AB,↓AA,append_assoc,length_append];rfl
abbrev enH (b0:MB) (came:List Bool) (fk:Bool) (N:Nat) (K:List MB):List MB:=b0::.row 1 (came.map AV.bool) 0::.row 1 [.ms 1 1 N 0 N] 0::.row 1 [.bool fk] 0::K
theorem f105 (b0:MB) (came:List Bool) (fk:Bool) (a:Nat) (c:Bool) (K:List MB) (ha:came[a]?=some c) :
  call Pg pol1 105 [NV a,.rf 3 1 0 0,.rf 2 1 0 0] (enH b0 came fk came.length K)=some (.bool (!(fk||c)),enH b0 (came.set a true) (fk||c) came.length K):=by
 have hlt:a<came.length:=(List.getElem?_eq_some_iff.1 ha).1;have hg:(came.map AV.bool)[a]?=some (.bool c):=by simp[ha]
 have hset:((came.map AV.bool).set a (.bool true))=(came.set a true).map AV.bool:=by rw[map_set]
 have hp:=fun n=>AE n _ (Bz (came.set a true));refine AP (pol:=pol1) Tryz.func105 rfl rfl rfl rfl (AL _ _ 0 rfl) ?_;cases fk
 ·simp +contextual (disch:=omega) only[Tryz.f105,Q0,go_sem,simprocAttr,Qn,↓AD,↓AC,↓AB,↓AA,hg,hset];refine Bg rfl rfl rfl ?_ ?_
  ·simp[-map_set,keptOk,MB.beq_refl,MB.under,AV.underL,AV.under,hp,EA]
  ·simp
 ·simp +contextual (disch:=omega) only[Tryz.f105,Q0,go_sem,simprocAttr,Qn,↓AD,↓AC,↓AB,↓AA,hg,hset];refine Bg rfl rfl rfl ?_ ?_
  ·simp[-map_set,keptOk,MB.beq_refl,MB.under,AV.underL,AV.under,hp,EA]
  ·simp
abbrev Stk:=List (Nat×List Bool)
abbrev wayAV (w:Nat×List Bool):AV:=.agg (NV w.1::w.2.map AV.bool)
def runS {σ:Type} (ins:List Ins) (en:σ->Nat->Bool×σ) (yi:σ->Nat->List Bool->Bool×σ):Nat->Stk->σ->Option σ
 | _,[],s=>some s
 | 0,_::_,_=>none
 | k+1,(a,m)::st,s=>
   match (en s a).1 with
   | false=>some (en s a).2
   | true=>
     match ins[a]? with
     | none=>none
     | some i=>
       if i.op=2 then runS ins en yi k ((i.x.toNat,m)::(i.y.toNat,m)::st) (en s a).2
       else if i.op=3 then runS ins en yi k ((i.x.toNat,m)::st) (en s a).2
       else if i.op=4 then runS ins en yi k ((a+1,m.set i.n.toNat true)::st) (en s a).2
       else if i.op=1∨i.op=0 then
        match (yi (en s a).2 a m).1 with
        | true=>runS ins en yi k st (yi (en s a).2 a m).2
        | false=>some (yi (en s a).2 a m).2
       else runS ins en yi k st (en s a).2
def LeadsR (ins:List Ins):Prop:=∀ n i,ins[n]?=some i->(i.op=2∨i.op=3->0<=i.x/\i.x.toNat<ins.length)/\(i.op=2->0<=i.y/\i.y.toNat<ins.length)/\(i.op=4->n+1<ins.length/\0<=i.n/\i.n<18)
def StkOk (ins:List Ins) (st:Stk):Prop:=∀ w∈st,w.1<ins.length/\w.2.length=18
abbrev m0S:List Bool:=List.replicate 18 false
theorem QV (n:Int):evBuild Pg 195 [(0,I n)]=some (.agg (I n::m0S.map AV.bool)):=by
 simp[evBuild,Nz,fillC,splice,AV.cells,AV.ok]
theorem Gm (n:Int) (m:List Bool) (hm:m.length=18):evBuild Pg 195 [(0,I n),(1,.agg (m.map AV.bool))]=some (.agg (I n::m.map AV.bool)):=by
 have h1:(m.map AV.bool).all AV.ok=true:=by simp[AV.ok]
 have h2:∀ z:List AV,z.length=18->(I n::z).take 1++(m.map AV.bool++(I n::z).drop (1+(m.map AV.bool).length))=I n::m.map AV.bool:=by
  intro z hz;simp[hm,hz]
 simp[evBuild,Nz,fillC,splice,AV.cells,AV.ok,hm]
theorem HM (n:Nat):∀(xs ys:List MB),(∀ y∈ys.take xs.length,MB.under n y=true)->keptOk n xs ys=true
 | [],ys,_=>by cases ys<;>rfl
 | x::xs,[],_=>rfl
 | x::xs,y::ys,h=>by
   simp only[keptOk,h y (by simp),Bool.true_or,Bool.true_and];exact HM n xs ys (fun z hz=>h z (by simp[hz]))
theorem FX {H:List MB}{sT xT e k by_ id:Nat}{ze x:AV}{xs js ys:List AV} (he:tyElem Pg sT=some e) (hxT:tyNotInt Pg xT=true) (hk:tySz Pg e=some k) (hby:tyBytes Pg e=some by_) (hze:tyZero Pg e=some ze) (hzl:ze.cells.length=k) (hk0:0<k)
  (hs:srcElems Pg H e x=some ys) (hw:ys.all (fun y=>decide (y.cells.length=k)&&y.cells.all AV.ok)=true) (hy:ys≠[]) (hr:getRow H id=some (k,xs++js,0)) (hroom:roomFor (xs.length+ys.length) by_=true) :
  evAppend Pg H sT xT (.ms id k (xs.length+js.length) 0 xs.length) x =
   some (.ms id k (xs.length+ys.length+(js.drop ys.length).length) 0 (xs.length+ys.length),H.set id (.row k (xs++(ys++js.drop ys.length)) 0)):=by
 unfold evAppend;simp only[he,hxT,hk,hby,hze,hs];rw[if_pos ⟨hw,hk0,hzl⟩];simp only[hr];rw[if_pos ⟨by simp,trivial,trivial,by omega⟩];cases ys with
 | nil=>exact absurd rfl hy
 | cons y ys=>
   rw[if_pos ⟨by omega,hroom⟩];have ht:(xs++js).take (0+xs.length)=xs:=by simp
   rw[ht];by_cases hc:0+xs.length+(y::ys).length<=xs.length+js.length
   ·rw[if_pos hc];have h1:(xs++js).drop (0+xs.length+(y::ys).length)=js.drop (y::ys).length:=by
     rw[Nat.zero_add,List.drop_append];simp
    rw[h1];have h2:xs.length+(y::ys).length+(js.drop (y::ys).length).length=xs.length+js.length:=by
     simp only[List.length_drop];omega
    rw[h2]
   ·rw[if_neg hc];have h1:js.drop (y::ys).length=[]:=List.drop_eq_nil_of_le (by omega);rw[h1];simp
end
section
attribute [local go_sem] Ae Al bndO bnd evEq eqCells not_false_eq_true not_true_eq_false AX size_empty length_append map_append tySzE head?_drop mul_one AQ AU AO AR AS AY
theorem DW (m:List Bool) (h:m.length=18):(m.map AV.bool).take 18=m.map AV.bool:=List.take_of_length_le (by simp[h])
theorem Bj (m:List Bool):(m.map AV.bool).all AV.ok=true:=by simp[AV.ok]
theorem QB:m0S.length=18:=rfl
theorem splM (x:AV) (m:List Bool) (n:Nat) (hn:n<m.length):splice (x::m.map AV.bool) (1+n) [.bool true]=x::(m.set n true).map AV.bool:=by
 unfold splice;rw[map_set,List.set_eq_take_append_cons_drop,if_pos (by simpa using hn)];simp only[length_cons,length_nil];rw[show 1+n=n+1 by omega,List.take_succ_cons,show n+1+(0+1)=(n+1)+1 by omega,List.drop_succ_cons];rfl
theorem SF (c0 c1 c2 c3 c4 c5 c6 c7 c8 c9 c10 c11 c12 c13 c14 c15 c16 c17 c18 x:AV) (m:List Bool) (hm:m.length=18):splice [c0,c1,c2,c3,c4,c5,c6,c7,c8,c9,c10,c11,c12,c13,c14,c15,c16,c17,c18] 0 (x::m.map AV.bool)=x::m.map AV.bool:=by
 simp[splice,hm]
theorem spl5 (a b c d e a' b' c' d' e':AV):splice [a,b,c,d,e] 0 [a',b',c',d',e']=[a',b',c',d',e']:=rfl
theorem Fh (w:Nat×List Bool) (n:Nat):AV.under n (wayAV w)=true:=by
 have:=AE n _ (Bz w.2);simp[AV.under,AV.underL,this]
theorem LV (n:Nat) (l:List (Nat×List Bool)):AV.underL n (l.map wayAV)=true:=by
 induction l with
 | nil=>rfl
 | cons a l ih=>simp only[map_cons,AV.underL,Fh a n,ih,Bool.and_self]
abbrev wayI (w:Int×List Bool):AV:=.agg (I w.1::w.2.map AV.bool)
theorem Md {N n:Nat}{A G:List MB}{E:List AV}{t t':Tm} (hN:A.length=N) (hu:A.all (MB.under (N+1))=true) (hk:keepT (some [5,3,2,0]) t=t') (ht:AV.underL (N+1) (t'.map (·.2))=true) (hE:AV.underL (N+1) E=true) :
  prep ⟨some [5,3,2,0],some (N+1),[]⟩ ⟨n,t,A++(.row 19 E 0::G)⟩=⟨n,t',A++[.row 19 E 0]⟩:=by
 refine A0 rfl rfl hk ?_ ht ?_
 ·rw[List.take_append,hN,List.take_of_length_le (by omega)];simp[Nat.add_sub_cancel_left]
 ·simp[hu,MB.under,hE]
theorem f111 {σ:Type} (hp:σ->List MB) (Pr:Nat->σ->Prop) (ins:List Ins) (N iY iS iE iI fe st0:Nat) (cs:List AV) (en:σ->Nat->Bool×σ) (yi:σ->Nat->List Bool->Bool×σ)
  (hN:∀ s,(hp s).length=N) (hu:∀ s n,N<=n->(hp s).all (MB.under n)=true) (hfe:(fe=1000000000)=False) (hl:ins.length<=10000) (hst:st0<ins.length) (hw:LeadsR ins)
  (hS:∀ s,(hp s)[iS]?=some (.row 1 [NV st0] 0)) (hE:∀ s,(hp s)[iE]?=some (.row 1 [.clo fe cs] 0)) (hI:∀ s,(hp s)[iI]?=some (.row 1 [.sl false (ins.map insAV)] 0)) (hY:iY<N)
  (he:∀ f s a K,Pr (f+1) s->a<ins.length->call Pg pol1 fe (NV a::cs) (hp s++K)=some (.bool (en s a).1,hp (en s a).2++K))
  (hy:∀ f s a m K,Pr (f+1) s->a<ins.length->m.length=18->∃ G,call Pg pol1 1000000000 [.yld iY,NV a,.agg (m.map AV.bool)] (hp s++K)=some (.bool (yi s a m).1,hp (yi s a m).2++(K++G)))
  (hPe:∀ f s a,Pr (f+1) s->a<ins.length->Pr (f+1) (en s a).2) (hPy:∀ f s a m,Pr (f+1) s->m.length=18->(yi s a m).1=true->Pr f (yi s a m).2) (hPm:∀ f s,Pr (f+1) s->Pr f s) :
  ∀ k s s',Pr k s->k<=100000->runS ins en yi k [(st0,m0S)] s=some s'->call Pg pol1 111 [.yld iY,.rf iS 1 0 0,.rf iE 1 0 0,.rf iI 1 0 0] (hp s)=some (.tup [],hp s'):=by
 intro k s s' hP hk hrun;have gS:∀ s B,(hp s++B)[iS]?=some (.row 1 [NV st0] 0):=fun s B=>by rw[List.getElem?_append_left (List.getElem?_eq_some_iff.1 (hS s)).1];exact hS s
 have gE:∀ s B,(hp s++B)[iE]?=some (.row 1 [.clo fe cs] 0):=fun s B=>by rw[List.getElem?_append_left (List.getElem?_eq_some_iff.1 (hE s)).1];exact hE s
 have gI:∀ s B,(hp s++B)[iI]?=some (.row 1 [.sl false (ins.map insAV)] 0):=fun s B=>by rw[List.getElem?_append_left (List.getElem?_eq_some_iff.1 (hI s)).1];exact hI s
 have g0:∀ s B,(hp s++B)[N]?=B[0]?:=fun s B=>by rw[List.getElem?_append_right (by rw[hN];exact le_refl _),hN,sub_self]
 have g1:∀ s B,(hp s++B)[N+1]?=B[1]?:=fun s B=>by rw[List.getElem?_append_right (by rw[hN];omega),hN];congr 1;omega
 have g2:∀ s B,(hp s++B)[N+2]?=B[2]?:=fun s B=>by rw[List.getElem?_append_right (by rw[hN];omega),hN];congr 1;omega
 have z1:∀ s B v,(hp s++B).set (N+1) v=hp s++B.set 1 v:=fun s B v=>by rw[List.set_append_right _ _ (by rw[hN];omega),hN];congr 2;omega
 have z2:∀ s B v,(hp s++B).set (N+2) v=hp s++B.set 2 v:=fun s B v=>by rw[List.set_append_right _ _ (by rw[hN];omega),hN];congr 2;omega
 have hlen:∀ s,(hp s).length=N:=hN;have gS0:=hS s;have bI:iI<N:=by rw[<- hN s];exact(List.getElem?_eq_some_iff.1 (hI s)).1
 have bE:iE<N:=by rw[<- hN s];exact(List.getElem?_eq_some_iff.1 (hE s)).1
 have hend:∀ s1 G,retPol pol1 111 (hp s) (.tup []) (hp s1++G)=some (.tup [],hp s1):=fun s1 G=>by
  refine Bg rfl rfl rfl (HM _ _ _ fun y hy=>?_) (by rw[hN,<- hN s1];exact List.take_left' rfl);rw[hN,<- hN s1,List.take_left' rfl]at hy;have:=all_eq_true.1 (hu s1 _ (le_refl _)) y hy
  rwa [hN]
 refine AP (pol:=pol1) Tryz.func111 rfl rfl rfl rfl (AL _ _ 0 rfl) ?_;have b1:=QV (st0:Int);simp +contextual (disch:=omega) only[Tryz.f111,EE,go_sem,simprocAttr,evAppend,splice,D4,↓AD,↓AC,↓AB,↓AA,gS0,b1,hlen,QB,Bj]
 have fin:∀(stk2:Stk) (js2 E2:List AV) (s3:σ) (G:List MB) (t:Tm),E2=stk2.reverse.map wayAV++js2->(∀ n,AV.underL n js2=true) ->
   keepT (some [5,3,2,0]) t=[(5,.ms N 19 (stk2.length+js2.length) 0 stk2.length),(3,.rf iI 1 0 0),(2,.rf iE 1 0 0),(0,.yld iY)] ->
   prep ⟨some [5,3,2,0],some (N+1),[]⟩ ⟨87,t,hp s3++(.row 19 E2 0::G)⟩=⟨87,[(5,.ms N 19 (stk2.length+js2.length) 0 stk2.length),(3,.rf iI 1 0 0),(2,.rf iE 1 0 0),(0,.yld iY)],hp s3++[.row 19 (stk2.reverse.map wayAV++js2) 0]⟩:=by
  intro stk2 js2 E2 s3 G t hE2 hj ht;subst hE2;exact Md (hN s3) (hu s3 _ (Nat.le_succ _)) ht (by simp[AV.underL,AV.under];omega) (by rw[AK,LV,hj];rfl)
 have hdr:∀(js:List AV) (k:Nat),(∀ n,AV.underL n js=true)->∀ n,AV.underL n (js.drop k)=true:=fun js k h n=>by
  rw[Am];intro c hc;exact(Am n js).1 (h n) c (List.mem_of_mem_drop hc)
 refine Cw (σ:=(Nat×List AV)×(Stk×σ)) (M:=⟨some [5,3,2,0],some (N+1),[]⟩) (by rfl) (fun x=>(⟨87,[(5,.ms N 19 (x.2.1.length+x.1.2.length) 0 x.2.1.length),(3,.rf iI 1 0 0),(2,.rf iE 1 0 0),(0,.yld iY)],hp x.2.2++[.row 19 (x.2.1.reverse.map wayAV++x.1.2) 0]⟩:St))
  (fun x=>StkOk ins x.2.1/\Pr x.1.1 x.2.2/\(∀ n,AV.underL n x.1.2=true)/\x.2.1.length+x.1.1<=200002/\runS ins en yi x.1.1 x.2.1 x.2.2=some s') (fun x=>x.1.1) ((k,[]),([(st0,m0S)],s)) ?_ ?_ _ ?_
 ·rintro⟨⟨f,js⟩,stk,s1⟩ ⟨hk1,hP1,hju,hf,hr⟩;simp only at hk1 hP1 hju hf hr |-;cases stk with
  | nil=>
    have e:s1=s':=by cases f<;>simpa [runS] using hr
    subst e;simp +contextual (disch:=omega) only[Tryz.f111,EE,go_sem,simprocAttr,evAppend,evBuild,splice,D4,↓AD,↓AC,↓AB,↓AA,hlen];exact hend _ _
  | cons w rest=>
    obtain⟨a,m⟩:=w;obtain⟨ha,hm⟩:=hk1 (a,m) (List.mem_cons_self ..);simp only at ha hm;have hA:(rest.reverse.map wayAV).length=rest.length:=by simp
    simp only[List.reverse_cons,map_append,map_cons,map_nil,append_assoc,cons_append,nil_append,length_cons];generalize hAe:rest.reverse.map wayAV=A at hA;have hget:(A++wayAV (a,m)::js)[rest.length]?=some (wayAV (a,m)):=by rw[List.getElem?_append_right (by omega),hA,sub_self];rfl
    have hw1:IntKind.i64.wrap (((rest.length+1:Nat):Int)-1)=(rest.length:Nat):=by
     simp only[length_cons]at hf;rw[i64_in]<;>omega
    have hw2:((rest.length:Int)<((rest.length+1:Nat):Int))=True:=eq_true (by omega);have hw3:((rest.length:Int)<=((rest.length+1:Nat):Int))=True:=eq_true (by omega);have hw4:((0:Int)<((rest.length+1:Nat):Int))=True:=eq_true (by omega);have hAl:(A.length+(js.length+1)=rest.length+1+js.length)=True:=by rw[hA];simp;omega
    obtain⟨i,hi⟩:∃ i,ins[a]?=some i:=⟨_,getElem?_eq_getElem ha⟩;have hi':(ins.map insAV)[a]?=some (insAV i):=by simp[hi]
    have t18:=DW m hm;cases f with
    | zero=>simp[runS]at hr
    | succ f=>
    have he1:=fun K=>he f s1 a K hP1 ha;simp only[runS]at hr;cases hen:(en s1 a).1 with
    | false=>
      rw[hen]at hr he1;simp only[Option.some.injEq]at hr;subst hr;simp +contextual (disch:=omega) only[Tryz.f111,EE,go_sem,simprocAttr,evAppend,evBuild,splice,D4,↓AD,↓AC,↓AB,↓AA,hlen,hget,hw1,hw2,hw3,hw4,hAl,Ab,he1,g0,g1,g2,z1,z2,Bj,gE,gI,hfe,hm,t18,append_assoc,length_append];exact hend _ _
    | true=>
      rw[hen]at hr he1;simp only[hi]at hr;have hP2:=hPe f s1 a hP1 ha;generalize (en s1 a).2=s2 at hr he1 hP2
      have happ:∀(K:List MB) (t:Bool) (ys:List (Int×List Bool)),ys≠[]->ys.length<=2->(∀ w∈ys,w.2.length=18) ->
        evAppend Pg (hp s2++.row 19 (A++wayAV (a,m)::js) 0::K) 196 196 (.ms N 19 (rest.length+1+js.length) 0 rest.length) (.sl t (ys.map wayI)) =
         some (.ms N 19 (rest.length+ys.length+(js.drop (ys.length-1)).length) 0 (rest.length+ys.length),hp s2++.row 19 (A++(ys.map wayI++js.drop (ys.length-1))) 0::K):=by
       intro K t ys hy hy2 hy3;have hdrop:∀ n,0<n->(wayAV (a,m)::js).drop n=js.drop (n-1):=fun n hn=>by cases n with
        | zero=>omega
        | succ n=>rfl
       have hyl:0<ys.length:=List.length_pos_iff.2 hy
       have h1:=FX (H:=hp s2++.row 19 (A++wayAV (a,m)::js) 0::K) (sT:=196) (xT:=196) (x:=.sl t (ys.map wayI)) (ys:=ys.map wayI) (xs:=A) (js:=wayAV (a,m)::js) (id:=N) (e:=195) (by kernel_rfl) (by kernel_rfl) (k:=19) (by kernel_rfl) (by_:=32) (by kernel_rfl) (ze:=.agg (I 0::m0S.map AV.bool)) (by kernel_rfl) rfl (by omega) rfl
        (by
          rw[all_eq_true];intro y hy;obtain⟨w,hw,rfl⟩:=List.mem_map.1 hy;simp[AV.cells,AV.ok,hy3 w hw]) (by simpa using hy) (by simp only[getRow,g0];rfl) (AY (by simp only[length_map];simp only[length_cons]at hf;omega) (by omega))
       simp only[length_map,hA,hdrop _ hyl,length_cons]at h1;rw[show rest.length+1+js.length=rest.length+(js.length+1) by omega,h1];rw[List.set_append_right _ _ (by rw[hN];exact le_refl _),hN,sub_self];rfl
      by_cases h2:i.op=2
      ·obtain⟨x0,x1⟩:=(hw a i hi).1 (.inl h2);obtain⟨y0,y1⟩:=(hw a i hi).2.1 h2;have hb1:=Gm i.x m hm;have hb2:=Gm i.y m hm;have ha2:=fun K t=>happ K t [(i.y,m),(i.x,m)] (by simp) (by simp) (by simp[hm]);simp only[map_cons,map_nil,length_cons,length_nil,Nat.reduceAdd,Nat.reduceSub,cons_append,nil_append]at ha2;rw[if_pos h2]at hr;simp +contextual (disch:=omega) only[Tryz.f111,EE,go_sem,simprocAttr,splice,D4,↓AD,↓AC,↓AB,↓AA,hlen,hget,hw1,hw2,hw3,hw4,hAl,Ab,he1,g0,g1,g2,z1,z2,Bj,gE,gI,hfe,hm,t18,append_assoc,length_append,hi',h2,hb1,hb2,ha2,sub_zero];refine⟨((f,js.drop 1),(i.x.toNat,m)::(i.y.toNat,m)::rest,s2),⟨?_,hPm _ _ hP2,hdr js 1 hju,by simp at hf |-;omega,hr⟩,lt_succ_self _,?_⟩
       ·intro w hw;rcases mem_cons.1 hw with rfl|hw
        ·exact⟨x1,hm⟩
        rcases mem_cons.1 hw with rfl|hw
        ·exact⟨y1,hm⟩
        ·exact hk1 w (mem_cons_of_mem _ hw)
       ·exact fin _ _ _ _ _ _ (by simp[<- hAe,Int.toNat_of_nonneg x0,Int.toNat_of_nonneg y0]) (hdr js 1 hju) rfl
      rw[if_neg h2]at hr;by_cases h3:i.op=3
      ·obtain⟨x0,x1⟩:=(hw a i hi).1 (.inr h3);have hb1:=Gm i.x m hm;have ha2:=fun K t=>happ K t [(i.x,m)] (by simp) (by simp) (by simp[hm]);simp only[map_cons,map_nil,length_cons,length_nil,Nat.reduceAdd,Nat.reduceSub,cons_append,nil_append]at ha2;rw[if_pos h3]at hr;simp +contextual (disch:=omega) only[Tryz.f111,EE,go_sem,simprocAttr,splice,D4,↓AD,↓AC,↓AB,↓AA,hlen,hget,hw1,hw2,hw3,hw4,hAl,Ab,he1,g0,g1,g2,z1,z2,Bj,gE,gI,hfe,hm,t18,append_assoc,length_append,hi',h3,hb1,ha2,sub_zero];refine⟨((f,js.drop 0),(i.x.toNat,m)::rest,s2),⟨?_,hPm _ _ hP2,hdr js 0 hju,by simp at hf |-;omega,hr⟩,lt_succ_self _,?_⟩
       ·intro w hw;rcases mem_cons.1 hw with rfl|hw
        ·exact⟨x1,hm⟩
        ·exact hk1 w (mem_cons_of_mem _ hw)
       ·exact fin _ _ _ _ _ _ (by simp[<- hAe,Int.toNat_of_nonneg x0]) (hdr js 0 hju) rfl
      rw[if_neg h3]at hr;by_cases h4:i.op=4
      ·obtain⟨n1,n2,n3⟩:=(hw a i hi).2.2 h4;have hnn:i.n=((i.n.toNat:Nat):Int):=(Int.toNat_of_nonneg n2).symm;have hml:(m.set i.n.toNat true).length=18:=by simp[hm]
       have hb1:=Gm ((a+1:Nat):Int) (m.set i.n.toNat true) hml;have t18':=DW _ hml;have hsp:=splM (NV a) m i.n.toNat (by omega);have hs19:=fun c0 c1 c2 c3 c4 c5 c6 c7 c8 c9 c10 c11 c12 c13 c14 c15 c16 c17 c18 x=>SF c0 c1 c2 c3 c4 c5 c6 c7 c8 c9 c10 c11 c12 c13 c14 c15 c16 c17 c18 x m hm;have hw5:IntKind.i64.wrap ((a:Int)+1)=((a+1:Nat):Int):=by rw[i64_in]<;>omega
       have ha2:=fun K t=>happ K t [(((a+1:Nat):Int),m.set i.n.toNat true)] (by simp) (by simp) (by simp[hm]);simp only[map_cons,map_nil,length_cons,length_nil,Nat.reduceAdd,Nat.reduceSub,cons_append,nil_append]at ha2;rw[if_pos h4]at hr;simp +contextual (disch:=omega) only[Tryz.f111,EE,go_sem,simprocAttr,D4,↓AD,↓AC,↓AB,↓AA,hlen,hget,hw1,hw2,hw3,hw4,hw5,hAl,Ab,he1,g0,g1,g2,z1,z2,Bj,gE,gI,hfe,hm,hml,t18,t18',append_assoc,length_append,hi',h4,hb1,ha2,hsp,hs19,spl5,n2,n3,sub_zero,mul_one];refine⟨((f,js.drop 0),(a+1,m.set i.n.toNat true)::rest,s2),⟨?_,hPm _ _ hP2,hdr js 0 hju,by simp at hf |-;omega,hr⟩,lt_succ_self _,?_⟩
       ·intro w hw;rcases mem_cons.1 hw with rfl|hw
        ·exact⟨n1,hml⟩
        ·exact hk1 w (mem_cons_of_mem _ hw)
       ·exact fin _ _ _ _ _ _ (by simp[<- hAe]) (hdr js 0 hju) rfl
      rw[if_neg h4]at hr;have hk2:StkOk ins rest:=fun w hw=>hk1 w (mem_cons_of_mem _ hw);have hjw:∀ n,AV.underL n (wayAV (a,m)::js)=true:=fun n=>by
       simp only[AV.underL,hju n,Bool.and_true];exact Fh (a,m) n
      have hkT:∀ t:Tm,keepT (some [5,3,2,0]) t=[(5,.ms N 19 (rest.length+1+js.length) 0 rest.length),(3,.rf iI 1 0 0),(2,.rf iE 1 0 0),(0,.yld iY)] ->
        keepT (some [5,3,2,0]) t=[(5,.ms N 19 (rest.length+(wayAV (a,m)::js).length) 0 rest.length),(3,.rf iI 1 0 0),(2,.rf iE 1 0 0),(0,.yld iY)]:=fun t h=>by
       rw[h,length_cons,show rest.length+1+js.length=rest.length+(js.length+1) by omega]
      by_cases h01:i.op=1∨i.op=0
      ·rw[if_pos h01]at hr;have hy1:=fun K=>hy f s2 a m K hP2 ha hm;have hP3:=hPy f s2 a m hP2 hm;cases hyn:(yi s2 a m).1 with
       | false=>
         rw[hyn]at hr hy1;simp only[Option.some.injEq]at hr;subst hr;rcases h01 with h1|h0
         ·obtain⟨G,hG⟩:=hy1 [.row 19 (A++wayAV (a,m)::js) 0,.row 19 [.agg (NV a::m.map AV.bool)] 0,.row 5 [.agg [I 1,I i.x,I i.y,I i.n,.sl false (i.set.map spanAV)]] 0];simp +contextual (disch:=omega) only[Tryz.f111,EE,go_sem,simprocAttr,splice,D4,↓AD,↓AC,↓AB,↓AA,hlen,hget,hw1,hw2,hw3,hw4,hAl,Ab,he1,g0,g1,g2,z1,z2,Bj,gE,gI,hfe,hm,t18,append_assoc,length_append,hi',h1,hG,sub_zero];exact hend _ _
         ·obtain⟨G,hG⟩:=hy1 [.row 19 (A++wayAV (a,m)::js) 0,.row 19 [.agg (NV a::m.map AV.bool)] 0,.row 5 [.agg [I 0,I i.x,I i.y,I i.n,.sl false (i.set.map spanAV)]] 0];simp +contextual (disch:=omega) only[Tryz.f111,EE,go_sem,simprocAttr,splice,D4,↓AD,↓AC,↓AB,↓AA,hlen,hget,hw1,hw2,hw3,hw4,hAl,Ab,he1,g0,g1,g2,z1,z2,Bj,gE,gI,hfe,hm,t18,append_assoc,length_append,hi',h0,hG,sub_zero];exact hend _ _
       | true=>
         have hP3:=hP3 hyn;rw[hyn]at hr hy1;rcases h01 with h1|h0
         ·obtain⟨G,hG⟩:=hy1 [.row 19 (A++wayAV (a,m)::js) 0,.row 19 [.agg (NV a::m.map AV.bool)] 0,.row 5 [.agg [I 1,I i.x,I i.y,I i.n,.sl false (i.set.map spanAV)]] 0];simp +contextual (disch:=omega) only[Tryz.f111,EE,go_sem,simprocAttr,splice,D4,↓AD,↓AC,↓AB,↓AA,hlen,hget,hw1,hw2,hw3,hw4,hAl,Ab,he1,g0,g1,g2,z1,z2,Bj,gE,gI,hfe,hm,t18,append_assoc,length_append,hi',h1,hG,sub_zero];refine⟨((f,wayAV (a,m)::js),rest,_),⟨hk2,hP3,hjw,by simp at hf |-;omega,hr⟩,lt_succ_self _,?_⟩;exact fin _ _ _ _ _ _ (by simp[<- hAe]) hjw (hkT _ rfl)
         ·obtain⟨G,hG⟩:=hy1 [.row 19 (A++wayAV (a,m)::js) 0,.row 19 [.agg (NV a::m.map AV.bool)] 0,.row 5 [.agg [I 0,I i.x,I i.y,I i.n,.sl false (i.set.map spanAV)]] 0];simp +contextual (disch:=omega) only[Tryz.f111,EE,go_sem,simprocAttr,splice,D4,↓AD,↓AC,↓AB,↓AA,hlen,hget,hw1,hw2,hw3,hw4,hAl,Ab,he1,g0,g1,g2,z1,z2,Bj,gE,gI,hfe,hm,t18,append_assoc,length_append,hi',h0,hG,sub_zero];refine⟨((f,wayAV (a,m)::js),rest,_),⟨hk2,hP3,hjw,by simp at hf |-;omega,hr⟩,lt_succ_self _,?_⟩;exact fin _ _ _ _ _ _ (by simp[<- hAe]) hjw (hkT _ rfl)
      ·rw[if_neg h01]at hr;have h1:i.op≠1:=fun e=>h01 (.inl e);have h0:i.op≠0:=fun e=>h01 (.inr e);simp +contextual (disch:=omega) only[Tryz.f111,EE,go_sem,simprocAttr,splice,D4,↓AD,↓AC,↓AB,↓AA,hlen,hget,hw1,hw2,hw3,hw4,hAl,Ab,he1,g0,g1,g2,z1,z2,Bj,gE,gI,hfe,hm,t18,append_assoc,length_append,hi',h0,h1,h2,h3,h4,sub_zero];refine⟨((f,wayAV (a,m)::js),rest,_),⟨hk2,hPm _ _ hP2,hjw,by simp at hf |-;omega,hr⟩,lt_succ_self _,?_⟩;exact fin _ _ _ _ _ _ (by simp[<- hAe]) hjw (hkT _ rfl)
 ·exact⟨fun w hw=>by simp at hw;subst hw;exact⟨hst,rfl⟩,hP,fun n=>rfl,by simp;omega,hrun⟩
 ·exact Md (hN s) (hu s _ (Nat.le_succ _)) rfl (by simp[AV.underL,AV.under];omega) (by simp only[AV.underL];rw[Fh (st0,m0S)];rfl)
end
section
attribute [local go_sem] evAppend evBuild splice Ae Al bndO bnd evEq eqCells not_false_eq_true not_true_eq_false AX size_empty length_append map_append
def hasSpan (l:List (Int×Int)) (x:Int):Bool:=l.any fun p=>decide (p.1<=x)&&decide (x<=p.2)
theorem Ex {l:List (Int×Int)}{x:Int}{i:Nat}{p:Int×Int} (h:l[i]?=some p) (hp:p.1<=x/\x<=p.2):hasSpan l x=true:=by
 unfold hasSpan;exact any_eq_true.2 ⟨p,mem_of_getElem? h,by simp[hp]⟩
theorem Ew {l:List (Int×Int)}{x:Int} (h:∀ k p,k<l.length->l[k]?=some p->¬ (p.1<=x/\x<=p.2)):hasSpan l x=false:=by
 unfold hasSpan;rw[List.any_eq_false];intro p hp;obtain⟨k,hk,e⟩:=List.getElem_of_mem hp;have:=h k p hk (by rw[<- e];exact getElem?_eq_getElem hk)
 simpa using this
theorem f43 (l:List (Int×Int)) (x:Int) (hl:l.length<=1000000) (H:List MB):call Pg pol1 66 [.sl false (l.map spanAV),I x] H=some (.bool (hasSpan l x),H):=by
 refine AT Tryz.func66 rfl rfl rfl rfl rfl rfl (fun _=>rfl) (by simp[AV.plain,AV.plainL,AF,AG,AH,AI]) (by simp[AV.plain,AV.plainL,AF,AG,AH,AI]) ?_ H;simp +contextual (disch:=omega) only[Tryz.f66,dd66,go_sem,simprocAttr,mu66,↓AD,↓AC,↓AB,↓AA];refine Af (M:=(mskOf (pol1.mask 66) (pol1.gc 66) (pol1.acts 66) 0 2)) rfl l.length (fun i=>(⟨24,[(9,I i),(8,I l.length),(7,.sl false (l.map spanAV)),(1,I x)],[]⟩:St)) (fun i=>∀ k p,k<i->l[k]?=some p->¬ (p.1<=x/\x<=p.2)) ?_ ?_ (fun k p h=>by omega) _ (by first|rfl|(refine A0 rfl (by rfl) (by rfl) (by rfl) ?_ ?_<;>simp[AV.underL,AV.under,MB.under,AE,AJ,AF,AG,AH,AI,-map_take]))
 ·intro i hi hg;obtain⟨p,hp⟩:∃ p,l[i]?=some p:=⟨_,getElem?_eq_getElem hi⟩;by_cases hin:p.1<=x/\x<=p.2
  ·rw[Ex hp hin];simp +contextual (disch:=omega) only[Tryz.f66,dd66,go_sem,simprocAttr,mu66,↓AD,↓AC,↓AB,↓AA,hp,spanAV];exact fzEq rfl rfl
  ·have ext:∀ k q,k<i+1->l[k]?=some q->¬ (q.1<=x/\x<=q.2):=fun k q hk hq=>by
    rcases lt_or_ge k i with h|h
    ·exact hg k q h hq
    ·obtain rfl:k=i:=by omega
     rw[hp]at hq;obtain rfl:=Option.some.inj hq;exact hin
   by_cases h1:p.1<=x
   ·simp +contextual (disch:=omega) only[Tryz.f66,dd66,go_sem,simprocAttr,mu66,↓AD,↓AC,↓AB,↓AA,hp,spanAV];exact⟨ext,(by first|rfl|(refine A0 rfl (by rfl) (by rfl) (by rfl) ?_ ?_<;>simp[AV.underL,AV.under,MB.under,AE,AJ,AF,AG,AH,AI,-map_take]))⟩
   ·simp +contextual (disch:=omega) only[Tryz.f66,dd66,go_sem,simprocAttr,mu66,↓AD,↓AC,↓AB,↓AA,hp,spanAV];exact⟨ext,(by first|rfl|(refine A0 rfl (by rfl) (by rfl) (by rfl) ?_ ?_<;>simp[AV.underL,AV.under,MB.under,AE,AJ,AF,AG,AH,AI,-map_take]))⟩
 ·intro hg;rw[Ew hg];simp +contextual (disch:=omega) only[Tryz.f66,dd66,go_sem,simprocAttr,mu66,↓AD,↓AC,↓AB,↓AA];exact fzEq rfl rfl
def wordI (x:Int):Bool:=(decide (97<=x)&&decide (x<=122))||(decide (65<=x)&&decide (x<=90))||(decide (48<=x)&&decide (x<=57))||x==95
end
section
attribute [local go_sem] evAppend evBuild splice Ae Al bndO bnd evEq eqCells not_false_eq_true not_true_eq_false AX size_empty length_append map_append tySzE head?_drop mul_one AQ AU AO AR AS AY
structure CS where
 nx:Int
 way:List Bool
 dn:Bool
 la:List Bool
abbrev tm44:Tm:=[(11,.rf 6 1 0 0),(10,.rf 5 1 0 0),(9,.rf 4 1 0 0),(8,.rf 3 1 0 0),(7,.rf 2 1 0 0),(6,.rf 1 1 0 0),(4,.rf 0 1 0 0)]
abbrev chA (cv:AV) (t:List Int) (p:Nat) (s:CS) (K:List MB):List MB:=
 .row 1 [cv] 0::.row 1 [.sl false (t.map I)] 0::.row 1 [NV p] 0::.row 1 [I s.nx] 0::.row 18 [.agg (s.way.map AV.bool)] 0::.row 1 [.bool s.dn] 0::.row 18 [.agg (s.la.map AV.bool)] 0::K
abbrev chH (ins:List Ins) (caps n:Int) (t:List Int) (p st:Nat) (c:Code×Code) (ls:LS) (s:CS) (K:List MB):List MB:=
 chA (.pt [.sl false (ins.map insAV),I caps,I n]) t p s (.row 1 [.sl false (ins.map insAV)] 0::.row 1 [NV st] 0::.row 1 [.clo 77 []] 0::.lp ls 44 59 tm44 [20,21] c::K)
def chY (ins:List Ins) (t:List Int) (p:Nat) (s:CS) (a:Nat) (m:List Bool):CS:=match ins[a]? with
 | some i=>if i.op=0 then { s with dn:=true,la:=m } else match t[p]? with
   | some x=>if hasSpan i.set x=true then { s with nx:=((a+1:Nat):Int),way:=m } else s
   | none=>s
 | none=>s
theorem y44 (ins:List Ins) (caps n:Int) (t:List Int) (p st:Nat) (c:Code×Code) (hc:c=rfOf Pg 44) (s:CS) (a:Nat) (m:List Bool) (K:List MB) (hl:ins.length<=10000) (ht:t.length<=1000000) (ha:a<ins.length) (hm:m.length=18) (hs1:s.way.length=18) (hs2:s.la.length=18) (hdn:s.dn=false) (hset:∀ i∈ins,i.set.length<=1000000) :
  ∃ G,call Pg pol1 1000000000 [.yld 10,NV a,.agg (m.map AV.bool)] (chH ins caps n t p st c .ready s K)=some (.bool (!(chY ins t p s a m).dn),chH ins caps n t p st c (if(chY ins t p s a m).dn then .done .ret else .ready) (chY ins t p s a m) (K++G)):=by
 obtain⟨i,hi⟩:∃ i,ins[a]?=some i:=⟨_,getElem?_eq_getElem ha⟩;have hi':(ins.map insAV)[a]?=some (insAV i):=by simp[hi]
 have hsl:=hset i (mem_of_getElem? hi);have e1:=congrArg (·.1) hc;have e2:=congrArg (·.2) hc;simp only[rfOf,Tryz.func44,Tryz.f44,findRF,append_nil,nil_append,List.headD]at e1 e2;have okm:=Bj m;have okw:=Bj s.way;have okl:=Bj s.la;have hx:∀ x:MB,(K++[x])[K.length]?=some x:=fun x=>by simp
 have hy:∀ x y:MB,(K++[x]).set K.length y=K++[y]:=fun x y=>by simp
 have tkm:=DW m hm;have tkw:=DW s.way hs1;have tkl:=DW s.la hs2;have drm:(m.map AV.bool).drop 18=[]:=List.drop_of_length_le (by simp[hm]);have drw:(s.way.map AV.bool).drop 18=[]:=List.drop_of_length_le (by simp[hs1]);have drl:(s.la.map AV.bool).drop 18=[]:=List.drop_of_length_le (by simp[hs2]);have hsa:∀(a0 a1 a2 a3 a4 a5 a6 a7 a8 a9 a10 b0 b1 b2 b3 b4 b5 b6 b7 b8 b9 b10 x:MB),sameAt (K.length+1+1+1+1+1+1+1+1+1+1+1) (a0::a1::a2::a3::a4::a5::a6::a7::a8::a9::a10::(K++[x])) (b0::b1::b2::b3::b4::b5::b6::b7::b8::b9::b10::(K++[x]))=true:=fun a0 a1 a2 a3 a4 a5 a6 a7 a8 a9 a10 b0 b1 b2 b3 b4 b5 b6 b7 b8 b9 b10 x=>by simp[sameAt,MB.beq_refl]
 have hss:∀(i:Nat) (H:List MB),sameAt i H H=true:=fun i H=>by unfold sameAt;cases H[i]?<;>simp[MB.beq_refl]
 clear hc;by_cases h0:i.op=0
 ·have ey:chY ins t p s a m = { s with dn:=true,la:=m }:=by simp only[chY,hi,if_pos h0]
  rw[ey];refine⟨[.row 18 [.agg (m.map AV.bool)] 0],?_⟩;refine CQ (f:=44) (n:=59) (t:=tm44) (ps:=[20,21]) (c:=c) rfl rfl rfl e1 e2 ?_;simp +contextual (disch:=omega) only[Tryz.f44,dd44,go_sem,simprocAttr,mu44,↓AD,↓AC,↓AB,↓AA,hi',h0,DH,beginRd,MB.beqT_refl,Bq,okm,okw,okl,hx,hy,tkm,tkw,tkl,drm,drw,drl,append_nil,hsa,hss,hm,hs1,hs2];repeat' (first|intro _|apply And.intro|(unfold dOk;kernel_rfl)|(show (_||_)=true;kernel_rfl)|(show (_&&_)=true;kernel_rfl))
  all_goals (try exact Na rfl)
 ·have hx0:∀ x,t[p]?=some x->(t.map I)[p]?=some (I x):=fun x h=>by simp[h]
  by_cases hp:p<t.length
  ·obtain⟨x,hxt⟩:∃ x,t[p]?=some x:=⟨_,getElem?_eq_getElem hp⟩;have hxt':=hx0 x hxt;have hlt:((p:Int)<((t.length:Nat):Int))=True:=eq_true (by omega);have h66:=fun H=>f43 i.set x hsl H;have hwa:IntKind.i64.wrap ((a:Int)+1)=((a+1:Nat):Int):=by rw[i64_in]<;>omega
   by_cases hsp:hasSpan i.set x=true
   ·have ey:chY ins t p s a m = { s with nx:=((a+1:Nat):Int),way:=m }:=by simp only[chY,hi,if_neg h0,hxt,if_pos hsp]
    rw[ey];refine⟨[.row 18 [.agg (m.map AV.bool)] 0],?_⟩;refine CQ (f:=44) (n:=59) (t:=tm44) (ps:=[20,21]) (c:=c) rfl rfl rfl e1 e2 ?_;simp +contextual (disch:=omega) only[Tryz.f44,dd44,go_sem,simprocAttr,mu44,↓AD,↓AC,↓AB,↓AA,hi',h0,DH,beginRd,MB.beqT_refl,Bq,okm,okw,okl,hx,hy,tkm,tkw,tkl,drm,drw,drl,append_nil,hsa,hss,hm,hs1,hs2,hlt,hxt',h66,hsp,hwa,Ab];repeat' (first|intro _|apply And.intro|(unfold dOk;kernel_rfl)|(show (_||_)=true;kernel_rfl)|(show (_&&_)=true;kernel_rfl))
    all_goals (try (simp only[hdn];exact Cg rfl))
   ·have ey:chY ins t p s a m=s:=by simp only[chY,hi,if_neg h0,hxt,if_neg hsp]
    have hsp':hasSpan i.set x=false:=by simpa using hsp
    rw[ey];refine⟨[.row 18 [.agg (m.map AV.bool)] 0],?_⟩;refine CQ (f:=44) (n:=59) (t:=tm44) (ps:=[20,21]) (c:=c) rfl rfl rfl e1 e2 ?_;simp +contextual (disch:=omega) only[Tryz.f44,dd44,go_sem,simprocAttr,mu44,↓AD,↓AC,↓AB,↓AA,hi',h0,DH,beginRd,MB.beqT_refl,Bq,okm,okw,okl,hx,hy,tkm,tkw,tkl,drm,drw,drl,append_nil,hsa,hss,hm,hs1,hs2,hlt,hxt',h66,hsp',hwa,Ab];repeat' (first|intro _|apply And.intro|(unfold dOk;kernel_rfl)|(show (_||_)=true;kernel_rfl)|(show (_&&_)=true;kernel_rfl))
    rw[if_neg (by simp[hdn]),show (!s.dn)=true by simp[hdn]];exact Cg rfl
  ·have hn:t[p]?=none:=List.getElem?_eq_none (by omega);have hlt:((p:Int)<((t.length:Nat):Int))=False:=eq_false (by omega);have ey:chY ins t p s a m=s:=by simp only[chY,hi,if_neg h0,hn]
   rw[ey];refine⟨[.row 18 [.agg (m.map AV.bool)] 0],?_⟩;refine CQ (f:=44) (n:=59) (t:=tm44) (ps:=[20,21]) (c:=c) rfl rfl rfl e1 e2 ?_;simp +contextual (disch:=omega) only[Tryz.f44,dd44,go_sem,simprocAttr,mu44,↓AD,↓AC,↓AB,↓AA,hi',h0,DH,beginRd,MB.beqT_refl,Bq,okm,okw,okl,hx,hy,tkm,tkw,tkl,drm,drw,drl,append_nil,hsa,hss,hm,hs1,hs2,hlt,Ab];repeat' (first|intro _|apply And.intro|(unfold dOk;kernel_rfl)|(show (_||_)=true;kernel_rfl)|(show (_&&_)=true;kernel_rfl))
   rw[if_neg (by simp[hdn]),show (!s.dn)=true by simp[hdn]];exact Cg rfl
end
section
attribute [local go_sem] evBuild splice Ae Al bndO bnd evEq eqCells not_false_eq_true not_true_eq_false AX size_empty length_append map_append tySzE head?_drop mul_one AQ AU AO AR AS AY
structure ES where
 came:List Bool
 fk:Bool
 rd:List Nat
 sp:List (Int×Int)
 dn:Nat
abbrev tm75:Tm:=[(11,.rf 6 1 0 0),(10,.rf 5 1 0 0),(9,.rf 4 1 0 0),(2,.rf 0 1 0 0)]
abbrev exA (ins:List Ins) (s:ES) (K:List MB):List MB:=
 .row 1 [.sl false (ins.map insAV)] 0::.row 1 (s.came.map AV.bool) 0::.row 1 [.ms 1 1 ins.length 0 ins.length] 0::.row 1 [.bool s.fk] 0 ::
 .row 1 [.ms 7 1 s.rd.length 0 s.rd.length] 0::.row 1 [.ms 8 2 s.sp.length 0 s.sp.length] 0::.row 1 [NV s.dn] 0::.row 1 (s.rd.map NV) 0::.row 2 (s.sp.map spanAV) 0::K
abbrev exH (ins:List Ins) (st:Nat) (c:Code×Code) (ls:LS) (s:ES) (K:List MB):List MB:=
 exA ins s (.row 1 [.sl false (ins.map insAV)] 0::.row 1 [NV st] 0::.row 1 [.clo 105 [.rf 3 1 0 0,.rf 2 1 0 0]] 0::.lp ls 75 79 tm75 [22,23] c::K)
def esY (ins:List Ins) (s:ES) (a:Nat):ES:=match ins[a]? with
 | some i=>if i.op=0 then { s with dn:=s.dn+1 } else if 0<i.set.length then { s with rd:=s.rd++[a],sp:=s.sp++i.set } else s
 | none=>s
theorem TO {H:List MB}{i n:Nat}{rs:List Nat}{c:Nat}{t:Bool} (hi:getRow H i=some (1,rs.map NV,0)) (hn:rs.length=n) (hr:n+1<=4000000000) :
  evAppend Pg H 22 22 (.ms i 1 n 0 n) (.sl t [NV c])=some (.ms i 1 (n+1) 0 (n+1),H.set i (.row 1 ((rs++[c]).map NV) 0)):=by
 have hs:srcElems Pg H 3 (.sl t [NV c])=some [NV c]:=rfl;rw[Bp (e:=3) (by kernel_rfl) (by kernel_rfl) (k:=1) (by kernel_rfl) (by_:=8) (by kernel_rfl) (ze:=I 0) (by kernel_rfl) rfl (by omega) hs rfl hi (by rw[length_map];exact hn) (Nat.zero_le _) (AY (by simpa using hr) (by omega))];rw[map_append];rfl
theorem RQ {H:List MB}{i n:Nat}{rs l:List (Int×Int)}{t:Bool} (hi:getRow H i=some (2,rs.map spanAV,0)) (hn:rs.length=n) (hr:n+l.length<=4000000000) :
  evAppend Pg H 60 60 (.ms i 2 n 0 n) (.sl t (l.map spanAV))=some (.ms i 2 (n+l.length) 0 (n+l.length),H.set i (.row 2 ((rs++l).map spanAV) 0)):=by
 have hs:srcElems Pg H 84 (.sl t (l.map spanAV))=some (l.map spanAV):=rfl;rw[Bp (e:=84) (by kernel_rfl) (by kernel_rfl) (k:=2) (by kernel_rfl) (by_:=16) (by kernel_rfl) (ze:=.agg [I 0,I 0]) (by kernel_rfl) rfl (by omega) hs (by simp[AV.cells,AV.ok]) hi (by rw[length_map];exact hn) (Nat.zero_le _) (AY (by simpa using hr) (by omega))];rw[map_append];simp
theorem y75 (ins:List Ins) (st:Nat) (c:Code×Code) (hc:c=rfOf Pg 75) (s:ES) (a:Nat) (m:List Bool) (K:List MB) (hl:ins.length<=10000) (ha:a<ins.length) (h1:s.rd.length+1<=100000000) (h2:s.dn+1<=100000000) (h3:∀ i,ins[a]?=some i->s.sp.length+i.set.length<=100000000) :
  call Pg pol1 1000000000 [.yld 12,NV a,.agg (m.map AV.bool)] (exH ins st c .ready s K)=some (.bool true,exH ins st c .ready (esY ins s a) K):=by
 obtain⟨i,hi⟩:∃ i,ins[a]?=some i:=⟨_,getElem?_eq_getElem ha⟩;have hi':(ins.map insAV)[a]?=some (insAV i):=by simp[hi]
 have h4:=h3 i hi;have e1:=congrArg (·.1) hc;have e2:=congrArg (·.2) hc;simp only[rfOf,Tryz.func75,Tryz.f75,findRF,append_nil,nil_append,List.headD]at e1 e2;have ey:esY ins s a=if i.op=0 then { s with dn:=s.dn+1 } else if 0<i.set.length then { s with rd:=s.rd++[a],sp:=s.sp++i.set } else s:=by simp only[esY,hi]
 rw[ey];clear hc ey;by_cases h0:i.op=0
 ·rw[if_pos h0];refine CQ (f:=75) (n:=79) (t:=tm75) (ps:=[22,23]) (c:=c) rfl rfl rfl e1 e2 ?_;simp +contextual (disch:=omega) only[Tryz.f75,dd75,go_sem,simprocAttr,evAppend,mu75,↓AD,↓AC,↓AB,↓AA,hi',h0,DH,beginRd,MB.beqT_refl,Bq];exact Cg rfl
 ·rw[if_neg h0];by_cases hs:0<i.set.length
  ·rw[if_pos hs];have ha1:=fun t=>TO (H:=exH ins st c .busy s K) (i:=7) (rs:=s.rd) (c:=a) (t:=t) rfl rfl (by omega);have ha2:=fun t=>RQ (H:=exH ins st c .busy { s with rd:=s.rd++[a] } K) (i:=8) (rs:=s.sp) (l:=i.set) (t:=t) rfl rfl (by omega);simp only[exH,exA,List.set,length_append,length_cons,length_nil,Nat.zero_add,map_append,map_cons,map_nil]at ha1 ha2;refine CQ (f:=75) (n:=79) (t:=tm75) (ps:=[22,23]) (c:=c) rfl rfl rfl e1 e2 ?_;simp +contextual (disch:=omega) only[Tryz.f75,dd75,go_sem,simprocAttr,mu75,↓AD,↓AC,↓AB,↓AA,hi',h0,hs,DH,beginRd,MB.beqT_refl,Bq,ha1,ha2];repeat' (first|intro _|apply And.intro|(unfold dOk;kernel_rfl)|(show (_||_)=true;kernel_rfl)|(show (_&&_)=true;kernel_rfl))
   all_goals (refine(Cg rfl).trans ?_;simp)
  ·rw[if_neg hs];have hs0:i.set.length=0:=by omega
   refine CQ (f:=75) (n:=79) (t:=tm75) (ps:=[22,23]) (c:=c) rfl rfl rfl e1 e2 ?_;simp +contextual (disch:=omega) only[Tryz.f75,dd75,go_sem,simprocAttr,evAppend,mu75,↓AD,↓AC,↓AB,↓AA,hi',h0,hs,hs0,DH,beginRd,MB.beqT_refl,Bq];exact Cg rfl
end
end Go.Ev
