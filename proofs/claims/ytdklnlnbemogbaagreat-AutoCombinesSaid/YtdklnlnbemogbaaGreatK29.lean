/- What functions of the program compute; no further conditions. -/
import Derived.Test.YtdklnlnbemogbaaGreatK28
set_option linter.unusedVariables false
set_option linter.unusedSimpArgs false
open List (append_assoc append_nil getElem?_map length_cons map_append map_cons map_set map_take mem_map set_cons_succ take_add_one)
open Nat (add_assoc zero_le)
open Go.Proofs Go.RowKit Go.IntWalk
set_option maxHeartbeats 16000000
set_option maxRecDepth 100000
namespace Go.Ev
attribute [local go_sem] evBin AV.cells strOf An As bndO bnd evEq eqCells not_false_eq_true not_true_eq_false toList_some Array.size_empty List.length_append tySzE List.head?_drop Nat.mul_one Ac Aj Aa Ad Ae AW
section
attribute [local go_sem] evAppend map_append
theorem Dz {α:Type}{x y:List α}{i:Nat}{v w:α} (hv:x[i]?=some v) (hw:y[i]?=some w) (h:v≠w):x≠y:=fun e=>by
 subst e;rw[hv]at hw;exact h (Option.some.inj hw)
theorem D8 {α:Type}{x y:List α} (hl:x.length=y.length) (h:∀ k,k<x.length->x[k]?=y[k]?):x=y:=by
 apply List.ext_getElem?;intro k;by_cases hk:k<x.length
 ·exact h k hk
 ·rw[List.getElem?_eq_none (by omega),List.getElem?_eq_none (by omega)]
theorem upto {α:Type}{x y:List α}{i:Nat}{v:α} (h:∀ k,k<i->x[k]?=y[k]?) (hv:x[i]?=some v) (hw:y[i]?=some v):∀ k,k<i+1->x[k]?=y[k]?:=fun k hk=>by
 rcases Nat.lt_or_ge k i with g|g
 ·exact h k g
 ·obtain rfl:k=i:=by omega
  rw[hv,hw]
theorem f84g (x y:List Int) (hl:x.length<=1000000) (hl2:y.length<=1000000) (H:List MB):call Pg pol1 84 [.sl false (x.map I),.sl false (y.map I)] H=some (.bool (decide (x=y)),H):=by
 have hpl:=AF x;have hpl2:=AF y;refine AQ Tryz.func84 rfl rfl rfl rfl rfl rfl (fun _=>rfl) (by simp[AV.plainL,AV.plain,hpl,hpl2]) rfl ?_ H;by_cases hle:x.length=y.length
 ·have hle2:(x.length:Int)=(y.length:Int):=by omega
  simp +contextual (disch:=omega) only[Tryz.f84,dd84,go_sem,simprocAttr,mu84,hle];refine AS (M:=(Ms 84 4)) rfl x.length (fun i=>(⟨26,[(13,I i),(12,I x.length),(1,.sl false (y.map I)),(0,.sl false (x.map I))],[]⟩:St)) (fun i=>∀ k,k<i->x[k]?=y[k]?) ?_ ?_ (fun k h=>by omega) _ (by first|exact(by first|rfl|(refine AO rfl (by rfl) (by rfl) (by rfl) ?_ ?_<;>simp[AV.underL,AV.under,MB.under,AG,AJ,AF,AH,AK,AM,-map_take,AF]))|(rw[<- hle];exact(by first|rfl|(refine AO rfl (by rfl) (by rfl) (by rfl) ?_ ?_<;>simp[AV.underL,AV.under,MB.under,AG,AJ,AF,AH,AK,AM,-map_take,AF]))))
  ·intro i hi hinv;obtain⟨v,hv⟩:∃ v,x[i]?=some v:=⟨_,zga hi⟩;obtain⟨w,hw⟩:∃ v,y[i]?=some v:=⟨_,zga (by omega)⟩;have hv':(x.map I)[i]?=some (I v):=by simp[hv]
   have hw':(y.map I)[i]?=some (I w):=by simp[hw]
   have hiy:(i:Int)<(y.length:Int):=by omega
   by_cases he:v=w
   ·subst he;have hup:=upto hinv hv hw;simp +contextual (disch:=omega) only[Tryz.f84,dd84,go_sem,simprocAttr,mu84,hv',hw',hiy];exact⟨by unfold dOk;kernel_rfl,hup,(by first|rfl|(refine AO rfl (by rfl) (by rfl) (by rfl) ?_ ?_<;>simp[AV.underL,AV.under,MB.under,AG,AJ,AF,AH,AK,AM,-map_take,AF]))⟩
   ·have hd:decide (x=y)=false:=decide_eq_false (Dz hv hw he);rw[hd];simp +contextual (disch:=omega) only[Tryz.f84,dd84,go_sem,simprocAttr,mu84,hv',hw',hiy,he];exact⟨by unfold dOk;kernel_rfl,fzEq rfl rfl⟩
  ·intro hinv;have hd:decide (x=y)=true:=decide_eq_true (D8 hle hinv);rw[hd];simp +contextual (disch:=omega) only[Tryz.f84,dd84,go_sem,simprocAttr,mu84,hle];exact fzEq rfl rfl
 ·have hle2:¬ (x.length:Int)=(y.length:Int):=by omega
  have hd:decide (x=y)=false:=decide_eq_false fun e=>hle (by rw[e]);rw[hd];simp +contextual (disch:=omega) only[Tryz.f84,dd84,go_sem,simprocAttr,mu84,hle2,hle];exact fzEq rfl rfl
theorem f85g (x y:List Bool) (hl:x.length<=1000000) (hl2:y.length<=1000000) (H:List MB):call Pg pol1 85 [.sl false (x.map AV.bool),.sl false (y.map AV.bool)] H=some (.bool (decide (x=y)),H):=by
 have hpl:=AN x;have hpl2:=AN y;refine AQ Tryz.func85 rfl rfl rfl rfl rfl rfl (fun _=>rfl) (by simp[AV.plainL,AV.plain,hpl,hpl2]) rfl ?_ H;by_cases hle:x.length=y.length
 ·have hle2:(x.length:Int)=(y.length:Int):=by omega
  simp +contextual (disch:=omega) only[Tryz.f85,dd85,go_sem,simprocAttr,mu85,hle];refine AS (M:=(Ms 85 4)) rfl x.length (fun i=>(⟨26,[(13,I i),(12,I x.length),(1,.sl false (y.map AV.bool)),(0,.sl false (x.map AV.bool))],[]⟩:St)) (fun i=>∀ k,k<i->x[k]?=y[k]?) ?_ ?_ (fun k h=>by omega) _ (by first|exact(by first|rfl|(refine AO rfl (by rfl) (by rfl) (by rfl) ?_ ?_<;>simp[AV.underL,AV.under,MB.under,AG,AJ,AF,AH,AK,AM,-map_take,AN]))|(rw[<- hle];exact(by first|rfl|(refine AO rfl (by rfl) (by rfl) (by rfl) ?_ ?_<;>simp[AV.underL,AV.under,MB.under,AG,AJ,AF,AH,AK,AM,-map_take,AN]))))
  ·intro i hi hinv;obtain⟨v,hv⟩:∃ v,x[i]?=some v:=⟨_,zga hi⟩;obtain⟨w,hw⟩:∃ v,y[i]?=some v:=⟨_,zga (by omega)⟩;have hv':(x.map AV.bool)[i]?=some (.bool v):=by simp[hv]
   have hw':(y.map AV.bool)[i]?=some (.bool w):=by simp[hw]
   have hiy:(i:Int)<(y.length:Int):=by omega
   by_cases he:v=w
   ·subst he;have hup:=upto hinv hv hw;simp +contextual (disch:=omega) only[Tryz.f85,dd85,go_sem,simprocAttr,mu85,hv',hw',hiy];exact⟨by unfold dOk;kernel_rfl,fun _=>⟨hup,(by first|rfl|(refine AO rfl (by rfl) (by rfl) (by rfl) ?_ ?_<;>simp[AV.underL,AV.under,MB.under,AG,AJ,AF,AH,AK,AM,-map_take,AN]))⟩,fun h=>absurd rfl h⟩
   ·have hd:decide (x=y)=false:=decide_eq_false (Dz hv hw he);rw[hd];simp +contextual (disch:=omega) only[Tryz.f85,dd85,go_sem,simprocAttr,mu85,hv',hw',hiy,he];exact⟨by unfold dOk;kernel_rfl,fun h=>h.elim,fun _=>fzEq rfl rfl⟩
  ·intro hinv;have hd:decide (x=y)=true:=decide_eq_true (D8 hle hinv);rw[hd];simp +contextual (disch:=omega) only[Tryz.f85,dd85,go_sem,simprocAttr,mu85,hle];exact fzEq rfl rfl
 ·have hle2:¬ (x.length:Int)=(y.length:Int):=by omega
  have hd:decide (x=y)=false:=decide_eq_false fun e=>hle (by rw[e]);rw[hd];simp +contextual (disch:=omega) only[Tryz.f85,dd85,go_sem,simprocAttr,mu85,hle2,hle];exact fzEq rfl rfl
theorem f82g (x y:List (Int×Int)) (hl:x.length<=1000000) (hl2:y.length<=1000000) (H:List MB):call Pg pol1 82 [.sl false (x.map spanAV),.sl false (y.map spanAV)] H=some (.bool (decide (x=y)),H):=by
 have hpl:=AH x;have hpl2:=AH y;refine AQ Tryz.func82 rfl rfl rfl rfl rfl rfl (fun _=>rfl) (by simp[AV.plainL,AV.plain,hpl,hpl2]) rfl ?_ H;by_cases hle:x.length=y.length
 ·have hle2:(x.length:Int)=(y.length:Int):=by omega
  simp +contextual (disch:=omega) only[Tryz.f82,dd82,go_sem,simprocAttr,mu82,hle];refine AS (M:=(Ms 82 4)) rfl x.length (fun i=>(⟨26,[(13,I i),(12,I x.length),(1,.sl false (y.map spanAV)),(0,.sl false (x.map spanAV))],[]⟩:St)) (fun i=>∀ k,k<i->x[k]?=y[k]?) ?_ ?_ (fun k h=>by omega) _ (by first|exact(by first|rfl|(refine AO rfl (by rfl) (by rfl) (by rfl) ?_ ?_<;>simp[AV.underL,AV.under,MB.under,AG,AJ,AF,AH,AK,AM,-map_take,AH]))|(rw[<- hle];exact(by first|rfl|(refine AO rfl (by rfl) (by rfl) (by rfl) ?_ ?_<;>simp[AV.underL,AV.under,MB.under,AG,AJ,AF,AH,AK,AM,-map_take,AH]))))
  ·intro i hi hinv;obtain⟨v,hv⟩:∃ v,x[i]?=some v:=⟨_,zga hi⟩;obtain⟨w,hw⟩:∃ v,y[i]?=some v:=⟨_,zga (by omega)⟩;have hv':(x.map spanAV)[i]?=some (.agg [I v.1,I v.2]):=by simp[hv]
   have hw':(y.map spanAV)[i]?=some (.agg [I w.1,I w.2]):=by simp[hw]
   have hiy:(i:Int)<(y.length:Int):=by omega
   by_cases he:v=w
   ·subst he;have hup:=upto hinv hv hw;simp +contextual (disch:=omega) only[Tryz.f82,dd82,go_sem,simprocAttr,mu82,hv',hw',hiy];exact⟨by unfold dOk;kernel_rfl,hup,(by first|rfl|(refine AO rfl (by rfl) (by rfl) (by rfl) ?_ ?_<;>simp[AV.underL,AV.under,MB.under,AG,AJ,AF,AH,AK,AM,-map_take,AH]))⟩
   ·have hd:decide (x=y)=false:=decide_eq_false (Dz hv hw he);rw[hd];have hb:(v.1==w.1&&v.2==w.2)=false:=by
     rw[Bool.eq_false_iff];intro h;rw[Bool.and_eq_true,beq_iff_eq,beq_iff_eq]at h;exact he (Prod.ext h.1 h.2)
    simp +contextual (disch:=omega) only[Tryz.f82,dd82,go_sem,simprocAttr,mu82,hv',hw',hiy,he,hb];exact⟨by unfold dOk;kernel_rfl,fzEq rfl rfl⟩
  ·intro hinv;have hd:decide (x=y)=true:=decide_eq_true (D8 hle hinv);rw[hd];simp +contextual (disch:=omega) only[Tryz.f82,dd82,go_sem,simprocAttr,mu82,hle];exact fzEq rfl rfl
 ·have hle2:¬ (x.length:Int)=(y.length:Int):=by omega
  have hd:decide (x=y)=false:=decide_eq_false fun e=>hle (by rw[e]);rw[hd];simp +contextual (disch:=omega) only[Tryz.f82,dd82,go_sem,simprocAttr,mu82,hle2,hle];exact fzEq rfl rfl
theorem f65g (x y:List (Int×Int)) (hl:x.length<=1000000) (hl2:y.length<=1000000) (H:List MB):call Pg pol1 65 [.sl false (x.map spanAV),.sl false (y.map spanAV)] H=some (.bool (decide (x=y)),H):=by
 have hpl:=AH x;have hpl2:=AH y;refine AQ Tryz.func65 rfl rfl rfl rfl rfl rfl (fun _=>rfl) (by simp[AV.plainL,AV.plain,hpl,hpl2]) rfl ?_ H;by_cases hle:x.length=y.length
 ·have hle2:(x.length:Int)=(y.length:Int):=by omega
  simp +contextual (disch:=omega) only[Tryz.f65,dd65,go_sem,simprocAttr,mu65,hle];refine AS (M:=(Ms 65 4)) rfl x.length (fun i=>(⟨26,[(5,I i),(1,.sl false (y.map spanAV)),(0,.sl false (x.map spanAV))],[]⟩:St)) (fun i=>∀ k,k<i->x[k]?=y[k]?) ?_ ?_ (fun k h=>by omega) _ (by first|exact(by first|rfl|(refine AO rfl (by rfl) (by rfl) (by rfl) ?_ ?_<;>simp[AV.underL,AV.under,MB.under,AG,AJ,AF,AH,AK,AM,-map_take,AH]))|(rw[<- hle];exact(by first|rfl|(refine AO rfl (by rfl) (by rfl) (by rfl) ?_ ?_<;>simp[AV.underL,AV.under,MB.under,AG,AJ,AF,AH,AK,AM,-map_take,AH]))))
  ·intro i hi hinv;obtain⟨v,hv⟩:∃ v,x[i]?=some v:=⟨_,zga hi⟩;obtain⟨w,hw⟩:∃ v,y[i]?=some v:=⟨_,zga (by omega)⟩;have hv':(x.map spanAV)[i]?=some (.agg [I v.1,I v.2]):=by simp[hv]
   have hw':(y.map spanAV)[i]?=some (.agg [I w.1,I w.2]):=by simp[hw]
   have hiy:(i:Int)<(y.length:Int):=by omega
   by_cases he:v=w
   ·subst he;have hup:=upto hinv hv hw;simp +contextual (disch:=omega) only[Tryz.f65,dd65,go_sem,simprocAttr,mu65,hv',hw',hiy];exact⟨by unfold dOk;kernel_rfl,hup,(by first|rfl|(refine AO rfl (by rfl) (by rfl) (by rfl) ?_ ?_<;>simp[AV.underL,AV.under,MB.under,AG,AJ,AF,AH,AK,AM,-map_take,AH]))⟩
   ·have hd:decide (x=y)=false:=decide_eq_false (Dz hv hw he);rw[hd];have hb:(v.1==w.1&&v.2==w.2)=false:=by
     rw[Bool.eq_false_iff];intro h;rw[Bool.and_eq_true,beq_iff_eq,beq_iff_eq]at h;exact he (Prod.ext h.1 h.2)
    simp +contextual (disch:=omega) only[Tryz.f65,dd65,go_sem,simprocAttr,mu65,hv',hw',hiy,he,hb];exact⟨by unfold dOk;kernel_rfl,fzEq rfl rfl⟩
  ·intro hinv;have hd:decide (x=y)=true:=decide_eq_true (D8 hle hinv);rw[hd];simp +contextual (disch:=omega) only[Tryz.f65,dd65,go_sem,simprocAttr,mu65,hle];exact fzEq rfl rfl
 ·have hle2:¬ (x.length:Int)=(y.length:Int):=by omega
  have hd:decide (x=y)=false:=decide_eq_false fun e=>hle (by rw[e]);rw[hd];simp +contextual (disch:=omega) only[Tryz.f65,dd65,go_sem,simprocAttr,mu65,hle2,hle];exact fzEq rfl rfl
theorem f81g (x y:List Spans) (hl:x.length<=1000000) (hl2:y.length<=1000000) (hs:∀ s∈x,s.length<=1000000) (hs2:∀ s∈y,s.length<=1000000) (H:List MB):call Pg pol1 81 [.sl false (x.map setAV9),.sl false (y.map setAV9),.clo 82 []] H=some (.bool (decide (x=y)),H):=by
 have hpl:=AP x;have hpl2:=AP y;refine AQ Tryz.func81 rfl rfl rfl rfl rfl rfl (fun _=>rfl) (by simp[AV.plainL,AV.plain,hpl,hpl2]) rfl ?_ H;by_cases hle:x.length=y.length
 ·simp +contextual (disch:=omega) only[Tryz.f81,dd81,go_sem,simprocAttr,mu81,hle];refine AS (M:=(Ms 81 4)) rfl x.length (fun i=>(⟨32,[(17,I i),(16,I x.length),(15,.sl false (x.map setAV9)),(2,.clo 82 []),(1,.sl false (y.map setAV9))],[]⟩:St)) (fun i=>∀ k,k<i->x[k]?=y[k]?) ?_ ?_ (fun k h=>by omega) _ (by first|exact(by first|rfl|(refine AO rfl (by rfl) (by rfl) (by rfl) ?_ ?_<;>simp[AV.underL,AV.under,MB.under,AG,AJ,AF,AH,AK,AM,-map_take,AP]))|(rw[<- hle];exact(by first|rfl|(refine AO rfl (by rfl) (by rfl) (by rfl) ?_ ?_<;>simp[AV.underL,AV.under,MB.under,AG,AJ,AF,AH,AK,AM,-map_take,AP]))))
  ·intro i hi hinv;obtain⟨v,hv⟩:∃ v,x[i]?=some v:=⟨_,zga hi⟩;obtain⟨w,hw⟩:∃ v,y[i]?=some v:=⟨_,zga (by omega)⟩;have hv':(x.map setAV9)[i]?=some (setAV9 v):=by simp[hv]
   have hw':(y.map setAV9)[i]?=some (setAV9 w):=by simp[hw]
   have hiy:(i:Int)<(y.length:Int):=by omega
   have hin:=f82g v w (hs v (zgc hv)) (hs2 w (zgc hw));by_cases he:v=w
   ·subst he;have hup:=upto hinv hv hw;rw[decide_eq_true rfl]at hin;simp +contextual (disch:=omega) only[Tryz.f81,dd81,go_sem,simprocAttr,mu81,hv',hw',hiy,hin];exact⟨hup,(by first|rfl|(refine AO rfl (by rfl) (by rfl) (by rfl) ?_ ?_<;>simp[AV.underL,AV.under,MB.under,AG,AJ,AF,AH,AK,AM,-map_take,AP]))⟩
   ·have hd:decide (x=y)=false:=decide_eq_false (Dz hv hw he);rw[hd];rw[decide_eq_false he]at hin;simp +contextual (disch:=omega) only[Tryz.f81,dd81,go_sem,simprocAttr,mu81,hv',hw',hiy,hin];exact fzEq rfl rfl
  ·intro hinv;have hd:decide (x=y)=true:=decide_eq_true (D8 hle hinv);rw[hd];simp +contextual (disch:=omega) only[Tryz.f81,dd81,go_sem,simprocAttr,mu81,hle];exact fzEq rfl rfl
 ·have hle2:¬ (x.length:Int)=(y.length:Int):=by omega
  have hd:decide (x=y)=false:=decide_eq_false fun e=>hle (by rw[e]);rw[hd];simp +contextual (disch:=omega) only[Tryz.f81,dd81,go_sem,simprocAttr,mu81,hle2,hle];exact fzEq rfl rfl
theorem f83g (x y:List (List Int)) (hl:x.length<=1000000) (hl2:y.length<=1000000) (hs:∀ s∈x,s.length<=1000000) (hs2:∀ s∈y,s.length<=1000000) (H:List MB):call Pg pol1 83 [.sl false (x.map rowAV),.sl false (y.map rowAV),.clo 84 []] H=some (.bool (decide (x=y)),H):=by
 have hpl:=AT x;have hpl2:=AT y;refine AQ Tryz.func83 rfl rfl rfl rfl rfl rfl (fun _=>rfl) (by simp[AV.plainL,AV.plain,hpl,hpl2]) rfl ?_ H;by_cases hle:x.length=y.length
 ·simp +contextual (disch:=omega) only[Tryz.f83,dd83,go_sem,simprocAttr,mu83,hle];refine AS (M:=(Ms 83 4)) rfl x.length (fun i=>(⟨32,[(17,I i),(16,I x.length),(15,.sl false (x.map rowAV)),(2,.clo 84 []),(1,.sl false (y.map rowAV))],[]⟩:St)) (fun i=>∀ k,k<i->x[k]?=y[k]?) ?_ ?_ (fun k h=>by omega) _ (by first|exact(by first|rfl|(refine AO rfl (by rfl) (by rfl) (by rfl) ?_ ?_<;>simp[AV.underL,AV.under,MB.under,AG,AJ,AF,AH,AK,AM,-map_take,AT]))|(rw[<- hle];exact(by first|rfl|(refine AO rfl (by rfl) (by rfl) (by rfl) ?_ ?_<;>simp[AV.underL,AV.under,MB.under,AG,AJ,AF,AH,AK,AM,-map_take,AT]))))
  ·intro i hi hinv;obtain⟨v,hv⟩:∃ v,x[i]?=some v:=⟨_,zga hi⟩;obtain⟨w,hw⟩:∃ v,y[i]?=some v:=⟨_,zga (by omega)⟩;have hv':(x.map rowAV)[i]?=some (rowAV v):=by simp[hv]
   have hw':(y.map rowAV)[i]?=some (rowAV w):=by simp[hw]
   have hiy:(i:Int)<(y.length:Int):=by omega
   have hin:=f84g v w (hs v (zgc hv)) (hs2 w (zgc hw));by_cases he:v=w
   ·subst he;have hup:=upto hinv hv hw;rw[decide_eq_true rfl]at hin;simp +contextual (disch:=omega) only[Tryz.f83,dd83,go_sem,simprocAttr,mu83,hv',hw',hiy,hin];exact⟨hup,(by first|rfl|(refine AO rfl (by rfl) (by rfl) (by rfl) ?_ ?_<;>simp[AV.underL,AV.under,MB.under,AG,AJ,AF,AH,AK,AM,-map_take,AT]))⟩
   ·have hd:decide (x=y)=false:=decide_eq_false (Dz hv hw he);rw[hd];rw[decide_eq_false he]at hin;simp +contextual (disch:=omega) only[Tryz.f83,dd83,go_sem,simprocAttr,mu83,hv',hw',hiy,hin];exact fzEq rfl rfl
  ·intro hinv;have hd:decide (x=y)=true:=decide_eq_true (D8 hle hinv);rw[hd];simp +contextual (disch:=omega) only[Tryz.f83,dd83,go_sem,simprocAttr,mu83,hle];exact fzEq rfl rfl
 ·have hle2:¬ (x.length:Int)=(y.length:Int):=by omega
  have hd:decide (x=y)=false:=decide_eq_false fun e=>hle (by rw[e]);rw[hd];simp +contextual (disch:=omega) only[Tryz.f83,dd83,go_sem,simprocAttr,mu83,hle2,hle];exact fzEq rfl rfl
def sameA (a b:AutoL):Bool:=decide (a.cl=b.cl)&&decide (a.nx=b.nx)&&decide (a.ac=b.ac)
theorem HJ {cl:Cls} (h:(cl.map List.length).sum<=1000000):∀ s∈cl,s.length<=1000000:=fun s hs=>by
 have:s.length<=(cl.map List.length).sum:=CB (mem_map.2 ⟨s,hs,rfl⟩);omega
theorem f66i (a b:List Int) (ha:a.length<=1000000) (hb:b.length<=1000000) (H:List MB):call Pg pol1 66 [rowAV a,rowAV b] H=some (.bool (decide (a=b)),H):=by
 have h69:=Sj a b (by omega) (by omega);refine AQ Tryz.func66 rfl rfl rfl rfl rfl rfl (fun _=>rfl) (by simp[AV.plain,AV.plainL,AF]) (by simp[AV.plain]) ?_ H;simp +contextual (disch:=omega) only[Tryz.f66,dd66,go_sem,simprocAttr,mu66,h69];exact fzEq rfl rfl
theorem f36g (a b:AutoL) (ha:AutoB a) (hb:AutoB b) (H:List MB):call Pg pol1 36 [autoAV a,autoAV b] H=some (.bool (sameA a b),H):=by
 have hpl:=AX a;have hpl2:=AX b;have h81:=f81g a.cl b.cl ha.cl hb.cl (HJ ha.sum) (HJ hb.sum);have h83:=f83g a.nx b.nx ha.nx hb.nx ha.row hb.row;have h85:=f85g a.ac b.ac ha.ac hb.ac;refine AQ Tryz.func36 rfl rfl rfl rfl rfl rfl (fun _=>rfl) (by simp only[AV.plainL,hpl,hpl2];rfl) rfl ?_ H;unfold sameA;obtain⟨cl,nx,ac⟩:=a;obtain⟨cl',nx',ac'⟩:=b;simp only at h81 h83 h85 |-;by_cases h1:cl=cl'<;>by_cases h2:nx=nx'<;>by_cases h3:ac=ac'
 all_goals
  simp only[h1,h2,h3,decide_true,decide_false,Bool.and_true,Bool.and_false,Bool.true_and,Bool.false_and,if_true,if_false]at h81 h83 h85 |-;simp +contextual (disch:=omega) only[Tryz.f36,dd36,go_sem,simprocAttr,mu36,h81,h83,h85];simp only[h1,h2,h3,decide_true,decide_false,Bool.and_true,Bool.and_false,Bool.true_and,Bool.false_and];exact fzEq rfl rfl
theorem f16g (a b:AutoL) (ha:AutoB a) (hb:AutoB b) (H:List MB):call Pg pol1 16 [autoAV a,autoAV b] H=some (.bool (sameA a b),H):=by
 have hpl:=AX a;have hpl2:=AX b;have h65:=fun s t hs ht=>f65g s t (HJ ha.sum s hs) (HJ hb.sum t ht);have h66:=fun s t hs ht H=>show call Pg pol1 66 [rowAV s,rowAV t] H=_ from f66i s t (ha.row s hs) (hb.row t ht) H;have a1:=ha.cl;have a2:=ha.nx;have a3:=ha.ac;have b1:=hb.cl;have b2:=hb.nx;have b3:=hb.ac;refine AQ Tryz.func16 rfl rfl rfl rfl rfl rfl (fun _=>rfl) (by simp only[AV.plainL,hpl,hpl2];rfl) rfl ?_ H;unfold sameA;obtain⟨cl,nx,ac⟩:=a;obtain⟨cl',nx',ac'⟩:=b;simp only at h65 h66 a1 a2 a3 b1 b2 b3 |-;obtain⟨V,hV⟩:∃ V,(decide (cl=cl')&&decide (nx=nx')&&decide (ac=ac'))=V:=⟨_,rfl⟩;have hf1:cl≠cl'->V=false:=fun h=>by rw[<- hV];simp[h]
 have hf2:nx≠nx'->V=false:=fun h=>by rw[<- hV];simp[h]
 have hf3:ac≠ac'->V=false:=fun h=>by rw[<- hV];simp[h]
 have ht:cl=cl'->nx=nx'->ac=ac'->V=true:=fun h1 h2 h3=>by rw[<- hV];simp[h1,h2,h3]
 rw[hV];by_cases l1:cl.length=cl'.length
 ·by_cases l2:nx.length=nx'.length
  ·by_cases l3:ac.length=ac'.length
   ·simp +contextual (disch:=omega) only[Tryz.f16,dd16,go_sem,simprocAttr,mu16,l1,l2,l3];refine AS (M:=(Ms 16 4)) rfl cl.length (fun i=>(⟨89,[(5,I i),(3,.rf 1 1 0 0),(2,.rf 0 1 0 0)],[.row 3 [autoAV ⟨cl,nx,ac⟩] 0,.row 3 [autoAV ⟨cl',nx',ac'⟩] 0]⟩:St)) (fun i=>∀ k,k<i->cl[k]?=cl'[k]?) ?_ ?_ (fun k h=>by omega) _ (by first|rfl|(refine AO rfl (by rfl) (by rfl) (by rfl) ?_ ?_<;>simp[AV.underL,AV.under,MB.under,AG,AJ,AF,AH,AK,AM,-map_take,AP,AT,AN]))
    ·intro i hi hinv;obtain⟨v,hv⟩:∃ v,cl[i]?=some v:=⟨_,zga hi⟩;obtain⟨w,hw⟩:∃ v,cl'[i]?=some v:=⟨_,zga (by omega)⟩;have hv':(cl.map setAV9)[i]?=some (setAV9 v):=by simp[hv]
     have hw':(cl'.map setAV9)[i]?=some (setAV9 w):=by simp[hw]
     have hix:(i:Int)<(cl.length:Int):=by omega
     have hiy:(i:Int)<(cl'.length:Int):=by omega
     have hin:=h65 v w (zgc hv) (zgc hw);by_cases he:v=w
     ·subst he;have hup:=upto hinv hv hw;rw[decide_eq_true rfl]at hin;simp +contextual (disch:=omega) only[Tryz.f16,dd16,go_sem,simprocAttr,mu16,hv',hw',hix,hiy,hin];exact⟨by unfold dOk;kernel_rfl,hup,(by first|rfl|(refine AO rfl (by rfl) (by rfl) (by rfl) ?_ ?_<;>simp[AV.underL,AV.under,MB.under,AG,AJ,AF,AH,AK,AM,-map_take,AP,AT,AN]))⟩
     ·rw[hf1 (Dz hv hw he)];rw[decide_eq_false he]at hin;simp +contextual (disch:=omega) only[Tryz.f16,dd16,go_sem,simprocAttr,mu16,hv',hw',hix,hiy,hin];exact⟨by unfold dOk;kernel_rfl,fzEq rfl rfl⟩
    ·intro hinv;have he4:=D8 (by omega) hinv;have hx4:¬ (cl.length:Int)<(cl.length:Int):=by omega
     simp +contextual (disch:=omega) only[Tryz.f16,dd16,go_sem,simprocAttr,mu16,hx4];refine AS (M:=(Ms 16 9)) rfl nx.length (fun i=>(⟨89,[(6,I i),(3,.rf 1 1 0 0),(2,.rf 0 1 0 0)],[.row 3 [autoAV ⟨cl,nx,ac⟩] 0,.row 3 [autoAV ⟨cl',nx',ac'⟩] 0]⟩:St)) (fun i=>∀ k,k<i->nx[k]?=nx'[k]?) ?_ ?_ (fun k h=>by omega) _ (by first|rfl|(refine AO rfl (by rfl) (by rfl) (by rfl) ?_ ?_<;>simp[AV.underL,AV.under,MB.under,AG,AJ,AF,AH,AK,AM,-map_take,AP,AT,AN]))
     ·intro i hi hinv;obtain⟨v,hv⟩:∃ v,nx[i]?=some v:=⟨_,zga hi⟩;obtain⟨w,hw⟩:∃ v,nx'[i]?=some v:=⟨_,zga (by omega)⟩;have hv':(nx.map rowAV)[i]?=some (rowAV v):=by simp[hv]
      have hw':(nx'.map rowAV)[i]?=some (rowAV w):=by simp[hw]
      have hix:(i:Int)<(nx.length:Int):=by omega
      have hiy:(i:Int)<(nx'.length:Int):=by omega
      have hin:=h66 v w (zgc hv) (zgc hw);by_cases he:v=w
      ·subst he;have hup:=upto hinv hv hw;rw[decide_eq_true rfl]at hin;simp +contextual (disch:=omega) only[Tryz.f16,dd16,go_sem,simprocAttr,mu16,hv',hw',hix,hiy,hin];exact⟨by unfold dOk;kernel_rfl,hup,(by first|rfl|(refine AO rfl (by rfl) (by rfl) (by rfl) ?_ ?_<;>simp[AV.underL,AV.under,MB.under,AG,AJ,AF,AH,AK,AM,-map_take,AP,AT,AN]))⟩
      ·rw[hf2 (Dz hv hw he)];rw[decide_eq_false he]at hin;simp +contextual (disch:=omega) only[Tryz.f16,dd16,go_sem,simprocAttr,mu16,hv',hw',hix,hiy,hin];exact⟨by unfold dOk;kernel_rfl,fzEq rfl rfl⟩
     ·intro hinv;have he9:=D8 (by omega) hinv;have hx9:¬ (nx.length:Int)<(nx.length:Int):=by omega
      simp +contextual (disch:=omega) only[Tryz.f16,dd16,go_sem,simprocAttr,mu16,hx9];refine AS (M:=(Ms 16 14)) rfl ac.length (fun i=>(⟨89,[(7,I i),(3,.rf 1 1 0 0),(2,.rf 0 1 0 0)],[.row 3 [autoAV ⟨cl,nx,ac⟩] 0,.row 3 [autoAV ⟨cl',nx',ac'⟩] 0]⟩:St)) (fun i=>∀ k,k<i->ac[k]?=ac'[k]?) ?_ ?_ (fun k h=>by omega) _ (by first|rfl|(refine AO rfl (by rfl) (by rfl) (by rfl) ?_ ?_<;>simp[AV.underL,AV.under,MB.under,AG,AJ,AF,AH,AK,AM,-map_take,AP,AT,AN]))
      ·intro i hi hinv;obtain⟨v,hv⟩:∃ v,ac[i]?=some v:=⟨_,zga hi⟩;obtain⟨w,hw⟩:∃ v,ac'[i]?=some v:=⟨_,zga (by omega)⟩;have hv':(ac.map AV.bool)[i]?=some (.bool v):=by simp[hv]
       have hw':(ac'.map AV.bool)[i]?=some (.bool w):=by simp[hw]
       have hix:(i:Int)<(ac.length:Int):=by omega
       have hiy:(i:Int)<(ac'.length:Int):=by omega
       skip
       by_cases he:v=w
       ·subst he;have hup:=upto hinv hv hw
        skip
        simp +contextual (disch:=omega) only[Tryz.f16,dd16,go_sem,simprocAttr,mu16,hv',hw',hix,hiy];refine⟨by unfold dOk;kernel_rfl,fun _=>⟨hup,(by first|rfl|(refine AO rfl (by rfl) (by rfl) (by rfl) ?_ ?_<;>simp[AV.underL,AV.under,MB.under,AG,AJ,AF,AH,AK,AM,-map_take,AP,AT,AN]))⟩,fun h=>absurd rfl h⟩
       ·rw[hf3 (Dz hv hw he)]
        skip
        simp +contextual (disch:=omega) only[Tryz.f16,dd16,go_sem,simprocAttr,mu16,hv',hw',hix,hiy,he];exact⟨by unfold dOk;kernel_rfl,fun h=>h.elim,fun _=>fzEq rfl rfl⟩
      ·intro hinv;have he14:=D8 (by omega) hinv;rw[ht he4 he9 he14];simp +contextual (disch:=omega) only[Tryz.f16,dd16,go_sem,simprocAttr,mu16];exact fzEq rfl rfl
   ·rw[hf3 (fun e=>l3 (by rw[e]))];have l3':¬ (ac.length:Int)=(ac'.length:Int):=by omega
    simp +contextual (disch:=omega) only[Tryz.f16,dd16,go_sem,simprocAttr,mu16,l1,l2,l3'];exact fzEq rfl rfl
  ·rw[hf2 (fun e=>l2 (by rw[e]))];have l2':¬ (nx.length:Int)=(nx'.length:Int):=by omega
   simp +contextual (disch:=omega) only[Tryz.f16,dd16,go_sem,simprocAttr,mu16,l1,l2'];exact fzEq rfl rfl
 ·rw[hf1 (fun e=>l1 (by rw[e]))];have l1':¬ (cl.length:Int)=(cl'.length:Int):=by omega
  simp +contextual (disch:=omega) only[Tryz.f16,dd16,go_sem,simprocAttr,mu16,l1'];exact fzEq rfl rfl
end
section
theorem g21 (a:AutoL) (hsm:SmallA a) (hn:0<a.nx.length) (hm:0<a.cl.length) (hr:∀ r∈a.nx,r≠[]) (hc:∀ s∈a.cl,s≠[]) (how at_ by_:Int) (h1:In64 how) (h2:In64 at_) (h3:In64 by_) :
  ∃ r,(∃ b,AutoB b/\r=autoAV b)/\∀ H,call Pg pol1 21 [autoAV a,I how,I at_,I by_] H=some (r,H):=by
 have hb:=hsm.b;have hpl:=AX a;have hA:=f12 at_ 1000 h2 (by omega);have hH:=f12 how 9 h1 (by omega);have hB:=f12 by_ 2 h3 (by omega);have bA:=E2 (n:=at_) (m:=1000) (by omega);have bH:=E2 (n:=how) (m:=9) (by omega);have bB:=E2 (n:=by_) (m:=2) (by omega);generalize aroundI at_ 1000=q at *;generalize aroundI how 9=w at *;generalize aroundI by_ 2=u at *;obtain⟨cl,nx,ac⟩:=a;have b1:=hb.cl;have b2:=hb.nx;have b3:=hb.ac;have b4:=hb.sum;have b5:=hb.row;obtain⟨m1,m2,m3,m4,m5⟩:=hsm;simp only at hn hm hr hc b1 b2 b3 b4 b5 m1 m2 m3 m4 m5;refine P2 Tryz.func21 rfl rfl rfl rfl rfl rfl (fun _=>rfl) (by simp[AV.plainL,AV.plain,AP,AT,AN]) (fun r h=>by obtain⟨b,_,rfl⟩:=h;exact AX b) ?_;simp +contextual (disch:=omega) only[Tryz.f21,dd21,go_sem,simprocAttr,mu21];refine AS (M:=(Ms 21 3)) rfl cl.length (fun i=>(⟨191,[(10,I i),(9,.rf 2 1 0 0),(8,.rf 1 1 0 0),(4,.rf 0 1 0 0),(3,I by_),(2,I at_),(1,I how)],.row 3 [autoAV ⟨cl,nx,ac⟩] 0::.row 3 [E3] 0::.row 3 [.agg [.ms 3 1 i 0 i,.ms 4 1 0 0 0,.ms 5 1 0 0 0]] 0::.row 1 (cellsL 2 6 ((cl.take i).map List.length)) 0::.row 1 [] 0::.row 1 [] 0::rowsC (cl.take i)⟩:St)) (fun i=>True) ?_ ?_ trivial _ ?_
 ·intro i hi _;obtain⟨s,hsi⟩:∃ s,cl[i]?=some s:=⟨_,zga hi⟩;have hsi':(cl.map setAV9)[i]?=some (setAV9 s):=by simp[hsi]
  have hRl:(rowsC (cl.take i)).length=i:=by simp[rowsC];omega
  have hsl:s.length<=1000000:=by
   have:s.length<=(cl.map List.length).sum:=CB (mem_map.2 ⟨s,zgc hsi,rfl⟩);omega
  have e1:rowsC (cl.take (i+1))=rowsC (cl.take i)++[.row 2 (s.map spanAV) 0]:=by
   rw[rowsC,take_add_one,hsi,Option.toList_some,map_append];rfl
  have e2:(cl.take (i+1)).map List.length=(cl.take i).map List.length++[s.length]:=by
   rw[take_add_one,hsi,Option.toList_some,map_append];rfl
  have hll:((cl.take i).map List.length).length=i:=by simp;omega
  rw[e1,e2,DN,hll];have hcl:(cellsL 2 6 ((cl.take i).map List.length)).length=i:=by rw[Ax];exact hll
  generalize rowsC (cl.take i)=R at *;generalize cellsL 2 6 ((cl.take i).map List.length)=C at *;have hsz:i+1+1+1+1+1+1=6+i:=by omega
  have a1:=fun(x0 x1 x2 x3 x4 x5:MB)=>P9 (H:=x0::x1::x2::x3::x4::x5::R) (s:=s) (by omega) (n:=i+1+1+1+1+1+1) (by simp[hRl]);have a2:=fun(x0 x1 x2 x4 x5:MB) (R:List MB) (t:Bool)=>LK (H:=x0::x1::x2::.row 1 C 0::x4::x5::R) (i:=3) (n:=i) (x:=.ms (i+1+1+1+1+1+1) 2 s.length 0 s.length) (t:=t) rfl (zero_le _) hcl (by omega) rfl rfl;simp only[List.cons_append,OJ]at a1 a2;rw[<- hsz];simp +contextual (disch:=omega) only[Tryz.f21,dd21,go_sem,simprocAttr,mu21,hsi',hRl,a1,a2];repeat' (first|intro _|apply And.intro|(unfold dOk;kernel_rfl)|exact St.beq_refl _|exact Ah|(show altO _ _ _ _=true;kernel_rfl)|(show (_||_)=true;kernel_rfl)|(show (_&&_)=true;kernel_rfl))
  rfl
 ·intro _;rw[List.take_length];have hRl:(rowsC cl).length=cl.length:=by simp[rowsC]
  have hCl:(cellsL 2 6 (cl.map List.length)).length=cl.length:=by rw[Ax];simp
  simp +contextual (disch:=omega) only[Tryz.f21,dd21,go_sem,simprocAttr,mu21];refine AS (M:=(Ms 21 8)) rfl nx.length (fun i=>(⟨191,[(12,I i),(9,.rf 2 1 0 0),(8,.rf 1 1 0 0),(4,.rf 0 1 0 0),(3,I by_),(2,I at_),(1,I how)],.row 3 [autoAV ⟨cl,nx,ac⟩] 0::.row 3 [E3] 0::.row 3 [.agg [.ms 3 1 cl.length 0 cl.length,.ms 4 1 i 0 i,.ms 5 1 0 0 0]] 0::.row 1 (cellsL 2 6 (cl.map List.length)) 0::.row 1 (cellsL 1 (6+cl.length) ((nx.take i).map List.length)) 0::.row 1 [] 0::(rowsC cl++rowsN (nx.take i))⟩:St)) (fun i=>True) ?_ ?_ trivial _ ?_
  ·intro i hi _;obtain⟨r,hri⟩:∃ r,nx[i]?=some r:=⟨_,zga hi⟩;have hri':(nx.map rowAV)[i]?=some (rowAV r):=by simp[hri]
   have hrl:=b5 r (zgc hri);have hNl:(rowsN (nx.take i)).length=i:=by simp[rowsN];omega
   have e1:rowsN (nx.take (i+1))=rowsN (nx.take i)++[.row 1 (r.map I) 0]:=by
    rw[rowsN,take_add_one,hri,Option.toList_some,map_append];rfl
   have e2:(nx.take (i+1)).map List.length=(nx.take i).map List.length++[r.length]:=by
    rw[take_add_one,hri,Option.toList_some,map_append];rfl
   have hll:((nx.take i).map List.length).length=i:=by simp;omega
   rw[e1,e2,DN,hll];have hnl:(cellsL 1 (6+cl.length) ((nx.take i).map List.length)).length=i:=by rw[Ax];exact hll
   generalize rowsN (nx.take i)=N at *;generalize cellsL 1 (6+cl.length) ((nx.take i).map List.length)=D at *;generalize cellsL 2 6 (cl.map List.length)=C at *;generalize rowsC cl=R at *;have hsz:cl.length+i+1+1+1+1+1+1=6+cl.length+i:=by omega
   have a1:=fun(x0 x1 x2 x3 x4 x5:MB)=>P8 (H:=x0::x1::x2::x3::x4::x5::(R++N)) (r:=r) (by omega) (n:=cl.length+i+1+1+1+1+1+1) (by simp[hRl,hNl]);have a2:=fun(x0 x1 x2 x3 x5:MB) (R:List MB) (t:Bool)=>HD (H:=x0::x1::x2::x3::.row 1 D 0::x5::R) (i:=4) (n:=i) (x:=.ms (cl.length+i+1+1+1+1+1+1) 1 r.length 0 r.length) (t:=t) rfl (zero_le _) hnl (by omega) rfl rfl;simp only[List.cons_append,append_assoc,OI,List.set_cons_zero]at a1 a2;rw[<- hsz];simp +contextual (disch:=omega) only[Tryz.f21,dd21,go_sem,simprocAttr,mu21,hri',hRl,hNl,append_assoc,a1,a2];repeat' (first|intro _|apply And.intro|(unfold dOk;kernel_rfl)|exact St.beq_refl _|exact Ah|(show altO _ _ _ _=true;kernel_rfl)|(show (_||_)=true;kernel_rfl)|(show (_&&_)=true;kernel_rfl))
   rfl
  ·intro _;rw[List.take_length];have hNl:(rowsN nx).length=nx.length:=by simp[rowsN]
   have hDl:(cellsL 1 (6+cl.length) (nx.map List.length)).length=nx.length:=by rw[Ax];simp
   have hCg:∀(j:Nat) (s:List (Int×Int)),cl[j]?=some s->(cellsL 2 6 (cl.map List.length))[j]?=some (.ms (6+j) 2 s.length 0 s.length):=fun j s h=>Bg 2 6 _ j _ (by rw[getElem?_map,h];rfl);have hDg:∀(j:Nat) (r:List Int),nx[j]?=some r->(cellsL 1 (6+cl.length) (nx.map List.length))[j]?=some (.ms (6+cl.length+j) 1 r.length 0 r.length):=fun j s h=>Bg 1 (6+cl.length) _ j _ (by rw[getElem?_map,h];rfl);have a1:=fun(x0 x1 x2 x3 x4:MB) (R:List MB)=>TR (H:=x0::x1::x2::x3::x4::.row 1 [] 0::R) (i:=5) (ac:=ac) rfl (by omega);simp only[set_cons_succ,List.set_cons_zero]at a1;obtain⟨qn,rfl⟩:∃ qn:Nat,q=qn:=⟨q.toNat,by omega⟩;have hqm:(qn:Int).tmod (cl.length:Int)=((qn % cl.length:Nat):Int):=rfl;have hqn:(qn:Int).tmod (nx.length:Int)=((qn % nx.length:Nat):Int):=rfl;have hjm:=Nat.mod_lt qn hm;have hjn:=Nat.mod_lt qn hn;generalize qn % cl.length=jm at *;generalize qn % nx.length=jn at *;have hn0:(nx.length:Int)≠0:=by omega
   have hm0:(cl.length:Int)≠0:=by omega
   generalize hC:cellsL 2 6 (cl.map List.length)=C at *;generalize hD:cellsL 1 (6+cl.length) (nx.map List.length)=D at *;generalize hRR:rowsC cl=R at *;generalize hNN:rowsN nx=N at *;have hw:w=0∨w=1∨w=2∨w=3∨w=4∨w=5∨w=6∨w=7∨w=8:=by omega
   have hcC:=HS cl nx;have hcN:=HR cl nx;rw[hRR,hNN,hC]at hcC;rw[hRR,hNN,hD]at hcN;rcases hw with rfl|rfl|rfl|rfl|rfl|rfl|rfl|rfl|rfl
   ·obtain⟨r,hri⟩:∃ r,nx[jn]?=some r:=⟨_,zga hjn⟩;have hrl:=b5 r (zgc hri);have hr0:=hr r (zgc hri);cases r with
    | nil=>exact absurd rfl hr0
    | cons z r=>
      have hd:=hDg jn (z::r) hri;have hg:∀ x0 x1 x2 x3 x4 x5:MB,(x0::x1::x2::x3::x4::x5::(R++N))[6+cl.length+jn]?=some (.row 1 ((z::r).map I) 0):=fun x0 x1 x2 x3 x4 x5=>by
       rw[add_assoc,get6,<- hRR,<- hNN,List.getElem?_append_right (by simp[rowsC])];simp[rowsC,rowsN,hri]
      have hs:∀(x0 x1 x2 x3 x4 x5:MB),(x0::x1::x2::x3::x4::x5::(R++N)).set (6+cl.length+jn) (.row 1 (I by_::r.map I) 0)=x0::x1::x2::x3::x4::x5::(R++rowsN (nx.set jn (by_::r))):=fun x0 x1 x2 x3 x4 x5=>by
       rw[add_assoc,set6,<- hRR,<- hNN,List.set_append_right _ _ (by simp[rowsC])];simp[rowsC,rowsN,map_set]
      simp only[map_cons,length_cons]at hg hd;simp +contextual (disch:=omega) only[Tryz.f21,dd21,go_sem,simprocAttr,mu21,hA,hH,a1,hqn,hn0,hd,hDl,hCl,hg,hs];refine⟨by unfold dOk;kernel_rfl,_,⟨⟨cl,nx.set jn (by_::r),ac⟩,Bq (by simp only;omega) m2 (by simp only[List.length_set];omega) (by simp only;omega) (fun x hx=>?_),rfl⟩,?_⟩
      ·rcases Da hx with h|h
       ·have:=m5 x h;omega
       ·subst h;have:=m5 _ (zgc hri);simp only[length_cons]at this |-;omega
      ·have e1:(nx.set jn (by_::r)).map List.length=nx.map List.length:=by
        rw[map_set];exact set_self (by rw[getElem?_map,hri];rfl)
       have k1:=HS cl (nx.set jn (by_::r));have k2:=HR cl (nx.set jn (by_::r));rw[hRR,hC]at k1;rw[hRR,e1,hD]at k2;exact DG (b:=⟨cl,nx.set jn (by_::r),ac⟩) k1 k2 hCl hDl rfl _ _ _
   ·have a2:=fun(x0 x1 x2 x3 x4:MB) (R:List MB) (t:Bool)=>FL (H:=x0::x1::x2::x3::x4::.row 1 (ac.map AV.bool) 0::R) (i:=5) (n:=ac.length) (x:=true) (t:=t) rfl (zero_le _) rfl (by omega);simp only[set_cons_succ,List.set_cons_zero]at a2;simp +contextual (disch:=omega) only[Tryz.f21,dd21,go_sem,simprocAttr,mu21,hA,hH,a1,a2];refine⟨_,⟨⟨cl,nx,ac++[true]⟩,Bq (by simp only;omega) m2 (by simp only;omega) (by simp;omega) (fun x hx=>by have:=m5 x hx;omega),rfl⟩,?_⟩;exact DG (b:=⟨cl,nx,ac++[true]⟩) hcC hcN hCl hDl (by simp) _ _ _
   ·have a2:=fun(x0 x1 x2 x4 x5:MB) (R:List MB) (t u:Bool)=>LK (H:=x0::x1::x2::.row 1 C 0::x4::x5::R) (i:=3) (n:=cl.length) (x:=.sl u [.agg [I by_,I by_]]) (t:=t) rfl (zero_le _) hCl (by omega) rfl rfl;simp only[OJ]at a2;simp +contextual (disch:=omega) only[Tryz.f21,dd21,go_sem,simprocAttr,mu21,hA,hH,a1,a2];refine⟨_,⟨⟨cl++[[(by_,by_)]],nx,ac⟩,Bq (by simp;omega) (fun x hx=>?_) (by simp only;omega) (by simp only;omega) (fun x hx=>by have:=m5 x hx;omega),rfl⟩,?_⟩
    ·rcases List.mem_append.1 hx with h|h
     ·exact m2 x h
     ·simp at h;subst h;simp
    ·refine DG (b:=⟨cl++[[(by_,by_)]],nx,ac⟩) ?_ hcN (by simp[hCl]) hDl rfl _ _ _;have:=hcC.snoc (x:=.sl true [.agg [I by_,I by_]]) (e:=[.agg [I by_,I by_]]) ⟨rfl,.inl ⟨true,rfl⟩⟩;rw[map_append];exact this
   ·obtain⟨s,hsi⟩:∃ s,cl[jm]?=some s:=⟨_,zga hjm⟩;have hs0:=hc s (zgc hsi);cases s with
    | nil=>exact absurd rfl hs0
    | cons p s=>
      have hd:=hCg jm (p::s) hsi;have hg:∀ x0 x1 x2 x3 x4 x5:MB,(x0::x1::x2::x3::x4::x5::(R++N))[6+jm]?=some (.row 2 ((p::s).map spanAV) 0):=fun x0 x1 x2 x3 x4 x5=>by
       rw[get6,<- hRR,<- hNN,List.getElem?_append_left (by simp[rowsC];omega)];simp[rowsC,hsi]
      have hs:∀(x0 x1 x2 x3 x4 x5:MB),(x0::x1::x2::x3::x4::x5::(R++N)).set (6+jm) (.row 2 (.agg [I by_,I p.2]::s.map spanAV) 0)=x0::x1::x2::x3::x4::x5::(rowsC (cl.set jm ((by_,p.2)::s))++N):=fun x0 x1 x2 x3 x4 x5=>by
       rw[set6,<- hRR,<- hNN,List.set_append_left _ _ (by simp[rowsC];omega)];simp[rowsC,map_set]
      simp only[map_cons,length_cons]at hg hd;simp +contextual (disch:=omega) only[Tryz.f21,dd21,go_sem,simprocAttr,mu21,hA,hH,a1,hqm,hm0,hd,hDl,hCl,hg,hs,spanAV];refine⟨by unfold dOk;kernel_rfl,_,⟨⟨cl.set jm ((by_,p.2)::s),nx,ac⟩,Bq (by simp only[List.length_set];omega) (fun x hx=>?_) (by simp only;omega) (by simp only;omega) (fun x hx=>by have:=m5 x hx;omega),rfl⟩,?_⟩
      ·rcases Da hx with h|h
       ·exact m2 x h
       ·subst h;have:=m2 _ (zgc hsi);simp only[length_cons]at this |-;omega
      ·have e1:(cl.set jm ((by_,p.2)::s)).map List.length=cl.map List.length:=by
        rw[map_set];exact set_self (by rw[getElem?_map,hsi];rfl)
       have k1:=HS (cl.set jm ((by_,p.2)::s)) nx;have k2:=HR (cl.set jm ((by_,p.2)::s)) nx;rw[hNN,e1,hC]at k1;rw[hNN,List.length_set,hD]at k2;exact DG (b:=⟨cl.set jm ((by_,p.2)::s),nx,ac⟩) k1 k2 hCl hDl rfl _ _ _
   ·obtain⟨s,hsi⟩:∃ s,cl[jm]?=some s:=⟨_,zga hjm⟩;have hd:=hCg jm s hsi;simp +contextual (disch:=omega) only[Tryz.f21,dd21,go_sem,simprocAttr,mu21,hA,hH,a1,hqm,hm0,hDl,hCl,hd];refine⟨by unfold dOk;kernel_rfl,_,⟨⟨cl.set jm [],nx,ac⟩,Bq (by simp only[List.length_set];omega) (fun x hx=>?_) (by simp only;omega) (by simp only;omega) (fun x hx=>by have:=m5 x hx;omega),rfl⟩,?_⟩
    ·rcases Da hx with h|h
     ·exact m2 x h
     ·subst h;simp
    ·refine DG (b:=⟨cl.set jm [],nx,ac⟩) ?_ hcN (by simp[hCl]) hDl rfl _ _ _;have:=hcC.set (x:=.sl true []) (e:=[]) ⟨rfl,.inl ⟨true,rfl⟩⟩ jm;rw[map_set];exact this
   ·obtain⟨r,hri⟩:∃ r,nx[jn]?=some r:=⟨_,zga hjn⟩;have hrl:=b5 r (zgc hri);have hd:=hDg jn r hri;have hg:∀ x0 x1 x2 x3 x4 x5:MB,(x0::x1::x2::x3::x4::x5::(R++N))[6+cl.length+jn]?=some (.row 1 (r.map I) 0):=fun x0 x1 x2 x3 x4 x5=>by
     rw[add_assoc,get6,<- hRR,<- hNN,List.getElem?_append_right (by simp[rowsC])];simp[rowsC,rowsN,hri]
    have hs:∀(x0 x1 x2 x3 x4 x5:MB),(x0::x1::x2::x3::x4::x5::(R++N)).set (6+cl.length+jn) (.row 1 ((r++[0]).map I) 0)=x0::x1::x2::x3::x4::x5::(R++rowsN (nx.set jn (r++[0]))):=fun x0 x1 x2 x3 x4 x5=>by
     rw[add_assoc,set6,<- hRR,<- hNN,List.set_append_right _ _ (by simp[rowsC])];simp[rowsC,rowsN,map_set]
    have a2:=fun(x0 x1 x2 x3 x4 x5:MB) (t:Bool)=>Su (H:=x0::x1::x2::x3::x4::x5::(R++N)) (i:=6+cl.length+jn) (n:=r.length) (x:=0) (t:=t) (by unfold getRow;rw[hg]) (zero_le _) rfl (by omega);simp only[hs]at a2;simp +contextual (disch:=omega) only[Tryz.f21,dd21,go_sem,simprocAttr,mu21,hA,hH,a1,hqn,hn0,hd,hDl,hCl,a2];repeat' (first|intro _|apply And.intro|(unfold dOk;kernel_rfl)|exact St.beq_refl _|exact Ah|(show altO _ _ _ _=true;kernel_rfl)|(show (_||_)=true;kernel_rfl)|(show (_&&_)=true;kernel_rfl))
    refine⟨_,⟨⟨cl,nx.set jn (r++[0]),ac⟩,Bq (by simp only;omega) m2 (by simp only[List.length_set];omega) (by simp only;omega) (fun x hx=>?_),rfl⟩,?_⟩
    ·rcases Da hx with h|h
     ·have:=m5 x h;omega
     ·subst h;have:=m5 _ (zgc hri);simp;omega
    ·have e1:(nx.set jn (r++[0])).map List.length=(nx.map List.length).set jn (r.length+1):=by
      rw[map_set];simp
     have k1:=HS cl (nx.set jn (r++[0]));have k2:=HR cl (nx.set jn (r++[0]));rw[hRR,hC]at k1;rw[hRR,e1,Ff,hD]at k2;exact DG (b:=⟨cl,nx.set jn (r++[0]),ac⟩) k1 k2 hCl (by simp[hDl]) rfl _ _ _
   ·obtain⟨s,hsi⟩:∃ s,cl[jm]?=some s:=⟨_,zga hjm⟩;obtain⟨s0,hs0⟩:∃ s,cl[0]?=some s:=⟨_,zga hm⟩;have hd:=hCg jm s hsi;have hd0:=hCg 0 s0 hs0;have hd1:(C.set 0 (.ms (6+jm) 2 s.length 0 s.length))[jm]?=some (.ms (6+jm) 2 s.length 0 s.length):=by
     by_cases e:jm=0
     ·subst e;rw[List.getElem?_set_self (by omega)]
     ·rw[List.getElem?_set_ne (by omega),hd]
    have hl1:(C.set 0 (.ms (6+jm) 2 s.length 0 s.length)).length=cl.length:=by rw[List.length_set];exact hCl
    simp +contextual (disch:=omega) only[Tryz.f21,dd21,go_sem,simprocAttr,mu21,hA,hH,a1,hqm,hm0,hDl,hCl,hd,hd0,hd1,hl1];repeat' (first|intro _|apply And.intro|(unfold dOk;kernel_rfl)|exact St.beq_refl _|exact Ah|(show altO _ _ _ _=true;kernel_rfl)|(show (_||_)=true;kernel_rfl)|(show (_&&_)=true;kernel_rfl))
    refine⟨_,⟨⟨(cl.set 0 s).set jm s0,nx,ac⟩,Bq (by simp only[List.length_set];omega) (fun x hx=>?_) (by simp only;omega) (by simp only;omega) (fun x hx=>by have:=m5 x hx;omega),rfl⟩,?_⟩
    ·rcases Da hx with h|h
     ·rcases Da h with h|h
      ·exact m2 x h
      ·subst h;exact m2 _ (zgc hsi)
     ·subst h;exact m2 _ (zgc hs0)
    ·refine DG (b:=⟨(cl.set 0 s).set jm s0,nx,ac⟩) ?_ hcN (by simp[hCl]) hDl rfl _ _ _;have c1:=hcC.cel jm _ _ hd (by rw[getElem?_map,hsi];rfl);have c0:=hcC.cel 0 _ _ hd0 (by rw[getElem?_map,hs0];rfl);have:=(hcC.set c1 0).set c0 jm;rw[map_set,map_set];exact this
   ·obtain⟨r0,hr0⟩:∃ r,nx[0]?=some r:=⟨_,zga hn⟩;have hd0:=hDg 0 r0 hr0;rw[Nat.add_zero]at hd0;have hU:IntKind.i64.wrap (1024+u)=1024+u:=by rw[i64_in]<;>omega
    obtain⟨un,rfl⟩:∃ un:Nat,u=un:=⟨u.toNat,by omega⟩;simp +contextual (disch:=omega) only[Tryz.f21,dd21,go_sem,simprocAttr,mu21,hA,hH,a1];generalize hX:AV.ms (6+cl.length) 1 r0.length 0 r0.length=X at *;refine AS (M:=(Ms 21 31)) rfl (1024+un-nx.length) (fun j=>(⟨191,[(9,.rf 2 1 0 0),(8,.rf 1 1 0 0),(3,I by_)],.row 3 [autoAV ⟨cl,nx,ac⟩] 0::.row 3 [E3] 0::.row 3 [.agg [.ms 3 1 cl.length 0 cl.length,.ms 4 1 (nx.length+j) 0 (nx.length+j),.ms 5 1 (ac.length+j) 0 (ac.length+j)]] 0::.row 1 C 0::.row 1 (D++List.replicate j X) 0::.row 1 ((ac++List.replicate j false).map AV.bool) 0::(R++N)⟩:St)) (fun i=>True) ?_ ?_ trivial _ ?_
    ·intro j hj _;have g0:(D++List.replicate j X)[0]?=some X:=by rw[List.getElem?_append_left (by omega)];exact hd0
     have gl:(D++List.replicate j X).length=nx.length+j:=by simp[hDl]
     have gb:(ac++List.replicate j false).length=ac.length+j:=by simp
     rw[List.replicate_succ',List.replicate_succ',<- append_assoc,<- append_assoc];generalize D++List.replicate j X=D1 at *;generalize ac++List.replicate j false=A1 at *;subst hX;have a2:=fun(x0 x1 x2 x3 x5:MB) (R:List MB) (t:Bool)=>HD (H:=x0::x1::x2::x3::.row 1 D1 0::x5::R) (i:=4) (n:=nx.length+j) (x:=.ms (6+cl.length) 1 r0.length 0 r0.length) (t:=t) rfl (zero_le _) gl (by omega) rfl rfl;have a3:=fun(x0 x1 x2 x3 x4:MB) (R:List MB) (t:Bool)=>FL (H:=x0::x1::x2::x3::x4::.row 1 (A1.map AV.bool) 0::R) (i:=5) (n:=ac.length+j) (x:=false) (t:=t) rfl (zero_le _) gb (by omega);simp only[set_cons_succ,List.set_cons_zero]at a2 a3;simp +contextual (disch:=omega) only[Tryz.f21,dd21,go_sem,simprocAttr,mu21,hB,hU,g0,gl,a2,a3];repeat' (first|intro _|apply And.intro|(unfold dOk;kernel_rfl)|exact St.beq_refl _|exact Ah|(show altO _ _ _ _=true;kernel_rfl)|(show (_||_)=true;kernel_rfl)|(show (_&&_)=true;kernel_rfl))
     rfl
    ·intro _;simp +contextual (disch:=omega) only[Tryz.f21,dd21,go_sem,simprocAttr,mu21,hB,hU];refine⟨by unfold dOk;kernel_rfl,_,⟨⟨cl,nx++List.replicate (1024+un-nx.length) r0,ac++List.replicate (1024+un-nx.length) false⟩,Bq (by simp only;omega) m2 (by simp;omega) (by simp;omega) (fun x hx=>?_),rfl⟩,?_⟩
     ·rcases List.mem_append.1 hx with h|h
      ·have:=m5 x h;omega
      ·rw[List.eq_of_mem_replicate h];have:=m5 _ (zgc hr0);omega
     ·have c0:=hcN.cel 0 _ _ hd0 (by rw[getElem?_map,hr0];rfl);have k2:=hcN.rep c0 (1024+un-nx.length);refine DG (b:=⟨cl,nx++List.replicate (1024+un-nx.length) r0,ac++List.replicate (1024+un-nx.length) false⟩) hcC ?_ hCl (by simp[hDl]) (by simp) _ _ _;rw[map_append,List.map_replicate];exact k2
    ·rw[List.replicate_zero,List.replicate_zero,append_nil,append_nil];rfl
   ·simp +contextual (disch:=omega) only[Tryz.f21,dd21,go_sem,simprocAttr,mu21,hA,hH,a1];refine⟨_,⟨⟨cl,[],ac⟩,Bq (by simp only;omega) m2 (by simp) (by simp only;omega) (fun x hx=>by simp at hx),rfl⟩,?_⟩;exact SI hcC hCl rfl _ _ _ _
  ·rw[show rowsN (nx.take 0)=[] from rfl,append_nil];rfl
 ·rfl
end
end Go.Ev
namespace Go.Ev
open Go.Proofs Go.RowKit
noncomputable def polU:Pol:={ pol1 with ext:=fun f=>if f=97 then none else pol1.ext f }
theorem extU:ExtOk Pg polU:=by
 intro f g hg args H r H' h;have e:polU.ext f=if f=97 then none else pol1.ext f:=rfl
 rw[e]at hg;by_cases h1:f=97
 ·rw[if_pos h1]at hg;cases hg
 ·rw[if_neg h1]at hg;exact ext1 f g hg args H r H' h
theorem okU:CfOk Pg (call Pg polU):=LF extU IV
theorem u19 (H:List MB):call Pg polU 19 [] H=some (.bool true,H):=BG (n:=60) 24 19 _ _ _ (by kernel_rfl)
end Go.Ev
namespace Go.Ev
noncomputable def polL (l:List Nat):Pol:={ pol1 with pure:=fun f=>!(19::(l++notPure)).contains f,ext:=fun f=>if f=19 then some (call Pg polU 19) else if l.contains f=true then some (call Pg pol1 f) else pol1.ext f }
theorem Jq {l:List Nat}{f:Nat} (h:l.contains f=true) (h19:f≠19):(polL l).ext f=some (call Pg pol1 f):=by
 show (if f=19 then some (call Pg polU 19) else if l.contains f=true then some (call Pg pol1 f) else pol1.ext f)=_;rw[if_neg h19,if_pos h]
theorem extL {l:List Nat} (hy:l.contains yldF=false):ExtOk Pg (polL l):=by
 intro f g hg args H r H' h;by_cases e:f=19
 ·subst e;have:(polL l).ext 19=some (call Pg polU 19):=rfl;rw[this]at hg;obtain rfl:=Option.some.inj hg;exact okU.1 19 args H r H' (by decide) h
 by_cases e1:l.contains f=true
 ·rw[Jq e1 e]at hg;obtain rfl:=Option.some.inj hg;exact ok1.1 f args H r H' (fun e2=>by rw[e2,hy]at e1;cases e1) h
 have:(polL l).ext f=pol1.ext f:=by
  show (if f=19 then some (call Pg polU 19) else if l.contains f=true then some (call Pg pol1 f) else pol1.ext f)=_;rw[if_neg e,if_neg e1]
 rw[this]at hg;exact ext1 f g hg args H r H' h
theorem okL {l:List Nat} (hy:l.contains yldF=false):CfOk Pg (call Pg (polL l)):=LF (extL hy) IV
theorem l19 (l:List Nat) (H:List MB):call Pg (polL l) 19 [] H=some (.bool true,H):=by
 have hp:(polL l).pure 19=false:=by
  show (!(19::(l++notPure)).contains 19)=false;simp
 have he:(polL l).ext 19=some (call Pg polU 19):=rfl;rw[BL];unfold evStep evBody;rw[if_neg (by rw[hp];decide),if_neg (by decide)];simp only[he];exact u19 H
theorem UF {l:List Nat} (hy:l.contains yldF=false) (f:Nat) (h19:f≠19) (hf:l.contains f=true) {args:List AV}{H H':List MB}{r:AV} (h:call Pg pol1 f args H=some (r,H')):call Pg (polL l) f args H=some (r,H'):=by
 have hp:(polL l).pure f=false:=by
  show (!(19::(l++notPure)).contains f)=false;have:f∈l:=by simpa using hf
  simp[this]
 rw[BL];unfold evStep evBody;rw[if_neg (by rw[hp];decide),if_neg (fun e2=>by rw[e2,hy]at hf;cases hf)];simp only[Jq hf h19];exact h
end Go.Ev
namespace Go.Ev
attribute [local go_sem] evBin AV.cells strOf An As bndO bnd evEq eqCells not_false_eq_true not_true_eq_false toList_some Array.size_empty List.length_append tySzE List.head?_drop Nat.mul_one Ac Aj Aa Ad Ae AW
section
theorem Lf {k top:Int} (hk:k=0∨k=1∨k=2):3<=(someCls k top).length/\(someCls k top).length<=4:=by
 rcases hk with rfl|rfl|rfl<;>simp[someCls]
theorem QN {k top:Int} (hk:k=0∨k=1∨k=2) (ht:top=255∨top=1114111):dividesA (someCls k top)=true/\topZ (someCls k top).flatten=top:=by
 rw[Il];rcases hk with rfl|rfl|rfl<;>rcases ht with rfl|rfl<;>exact⟨by kernel_rfl,by kernel_rfl⟩
theorem T5 (l:List Int):pickI l 0 3=0∨pickI l 0 3=1∨pickI l 0 3=2:=by
 have:=Fw (l:=l) (i:=0) (m:=3) (by omega);omega
structure SomeOk (a:AutoL) (top:Int):Prop where
 good:GoodA a
 div:dividesA a.cl=true
 top_:topZ a.cl.flatten=top
 small:SmallA a
 cl4:3<=a.cl.length/\a.cl.length<=4
 nx8:a.nx.length<=8
 set2:∀ s∈a.cl,s.length<=2
theorem Kb (l:List Int) {top:Int} (ht:top=255∨top=1114111):SomeOk (someA l top) top:=by
 have b8:=Fw (l:=l) (i:=1) (m:=8) (by omega);have hN:((someN l:Nat):Int)=1+pickI l 1 8:=by unfold someN;omega
 have hk:=T5 l;have hc:=Lf (top:=top) hk;have hd:=QN hk ht;have hs:∀ s∈someCls (pickI l 0 3) top,s.length<=2:=by
  rcases hk with e|e|e<;>rw[e]<;>simp[someCls]
 unfold someA;have hrow:∀(i:Nat),(someRow l (someN l) (someCls (pickI l 0 3) top).length i).length=(someCls (pickI l 0 3) top).length:=fun i=>by simp[someRow]
 have hrx:∀(i:Nat),∀ t∈someRow l (someN l) (someCls (pickI l 0 3) top).length i,0<=t/\t<(someN l:Int):=fun i t h=>by
  obtain⟨c,_,rfl⟩:=mem_map.1 h;exact Fw (by omega)
 refine⟨⟨by simp only;omega,by simp;omega,by simp;omega,by simp,fun row hr=>?_⟩,hd.1,hd.2,⟨by simp only;omega,fun s h=>by have:=hs s h;omega,by simp;omega,by simp;omega,fun r hr=>?_⟩,hc,by simp;omega,hs⟩
 ·obtain⟨i,_,rfl⟩:=mem_map.1 hr;exact⟨hrow i,fun t ht=>by simpa using hrx i t ht⟩
 ·obtain⟨i,_,rfl⟩:=mem_map.1 hr;rw[hrow i];omega
theorem SomeOk.valid {a:AutoL}{top:Int} (h:SomeOk a top):validW true a=0:=by
 have g:=h.good;have h1:=g.cl;have h2:=g.nx;have h3:=g.ac;have h4:=g.pos;unfold validW;rw[if_neg (by omega),if_neg (by rintro(h|h|h)<;>first|omega|cases h),if_pos];rw[List.all_eq_true];intro r hr;have:=g.rows r hr;simp only[okRow,Bool.and_eq_true,decide_eq_true_eq,List.all_eq_true,okSt];exact this
theorem SomeOk.dv {a:AutoL}{top:Int} (h:SomeOk a top):DivOk a.cl top:=by
 have:=B7 h.div
 rwa [h.top_]at this
noncomputable def polQ:Pol:=polL [10,20,21,22,23,24,25]
end
section
theorem Okf.b {a:AutoL} (h:Okf a):AutoB a:=JB h.good h.div
theorem Okf.valid {a:AutoL} (h:Okf a):validW (dividesA a.cl) a=0:=C6 h.good h.div
noncomputable def polA:Pol:=polL [20,23,25,26,28,30,33,35,36,37]
end
section
attribute [local go_sem] evAppend map_append
theorem zA_b:AutoB zA:=⟨by decide,by decide,by decide,by decide,fun r h=>by cases h⟩
theorem OX {a:AutoL}{top:Int} (hg:GoodA a) (hd:DivOk a.cl top):AutoB (lstW a).1:=by
 unfold lstW;split
 ·exact zA_b
 ·rename_i h;have hl:=GT hg hd fun s hs=>by
   simp only[List.any_eq_true,decide_eq_true_eq,not_exists,not_and]at h;have:=h s hs;omega
  exact JB hl.good hl.div
theorem GP {a:AutoL}{f:AutoL->AutoL×Int} (h:∀ top,GoodA a->DivOk a.cl top->AutoB (f a).1):AutoB (ofValid a f).1:=by
 unfold ofValid;by_cases hv:validW (dividesA a.cl) a=0
 ·rw[if_neg (by simp[hv])];obtain⟨hg,hd⟩:=A0 hv;exact h _ hg (B7 hd)
 ·rw[if_pos hv];exact zA_b
theorem T3 {a:AutoL}{top:Int} (hg:GoodA a) (hd:DivOk a.cl top):AutoB (revW a).1:=by
 unfold revW;split
 ·rename_i hR;exact OX (top:=top) (Cy (Hq hg) rfl hg.cl hR) hd
 ·exact zA_b
theorem RH (op:Bool->Bool->Bool) (a b:AutoL):AutoB (combW op a b).1:=by
 unfold combW;split
 ·exact zA_b
 ·rename_i h;obtain⟨g1,g2⟩:=@FU op a b (by simpa using h);exact OX g1 g2
theorem PE (r:AutoL):sameA r r=true:=by simp[sameA]
noncomputable def polG:Pol:=polL [16,17,20,21,23,18,26,27,28,29,30,31,32,33,34,35,36]
theorem okG:CfOk Pg (call Pg polG):=okL (by decide)
theorem Bp (f:Nat) (h19:f≠19) (hf:[16,17,20,21,23,18,26,27,28,29,30,31,32,33,34,35,36].contains f=true) {args:List AV}{H H':List MB}{r:AV} (h:call Pg pol1 f args H=some (r,H')):call Pg polG f args H=some (r,H'):=UF (by decide) f h19 hf h
theorem c19 (H:List MB):call Pg polG 19 [] H=some (.bool true,H):=l19 _ H
theorem DY:polG.dead=pol1.dead:=rfl
theorem Cv:polG.bdead=pol1.bdead:=rfl
theorem Cu:polG.racts=pol1.racts:=rfl
theorem DX:polG.muts=pol1.muts:=rfl
theorem DZ:polG.alts=pol1.alts:=rfl
theorem c16 (r:AutoL) (h:AutoB r) (H:List MB):call Pg polG 16 [autoAV r,autoAV r] H=some (.bool true,H):=by
 have:=f16g r r h h H;rw[PE]at this;exact Bp 16 (by decide) (by decide) this
theorem c17 (r:AutoL) (H:List MB):call Pg polG 17 [autoAV r] H=some (autoAV r,H):=Bp 17 (by decide) (by decide) (f17 r H)
theorem c23 (r:AutoL) (H:List MB):call Pg polG 23 [autoAV r] H=some (autoAV r,H):=Bp 23 (by decide) (by decide) (f23 r H)
theorem law5 (l k:List Int) (how at_ by_:Int) (runes:Bool) (hl:∀ x∈l,In64 x) (hk:∀ x∈k,In64 x) (h1:In64 how) (h2:In64 at_) (h3:In64 by_) (H:List MB) :
  call Pg polG 5 [.sl false (l.map I),.sl false (k.map I),I how,I at_,I by_,.bool runes] H=some (.bool true,H):=by
 have hpl1:=AF l;have hpl2:=AF k;have htop:∀ r:Bool,(if r then 1114111 else 255:Int)=255∨(if r then 1114111 else 255:Int)=1114111:=fun r=>by cases r<;>simp
 have soa:=Kb l (htop runes);have sob:=Kb k (htop runes);have soc:=Kb k (htop (!runes));have q20a:=fun H=>Bp 20 (by decide) (by decide) (f20 l hl runes H);have q20b:=fun H=>Bp 20 (by decide) (by decide) (f20 k hk runes H);have q20c:=fun H=>Bp 20 (by decide) (by decide) (f20 k hk (!runes) H);generalize someA l (if runes then 1114111 else 255)=a at *;generalize someA k (if runes then 1114111 else 255)=b at *;generalize someA k (if(!runes) then 1114111 else 255)=c at *;obtain⟨_,⟨s,hsb,rfl⟩,h21⟩:=g21 b sob.small sob.good.pos (by have:=sob.cl4;omega) (fun r hr e=>by have:=(sob.good.rows r hr).1;have:=sob.cl4;subst e;simp at *;omega) (fun s hs=>(sob.dv.set s hs).2) how at_ by_ h1 h2 h3;have q21:=fun H=>Bp 21 (by decide) (by decide) (h21 H);have hab:=soa.small.b;have hbb:=sob.small.b;have hcb:=soc.small.b;refine AQ Tryz.func5 rfl rfl rfl rfl rfl rfl (fun _=>rfl) (by simp[AV.plain,AV.plainL,AF]) (by simp[AV.plain]) ?_ H;clear soa sob soc;simp +contextual (disch:=omega) only[Tryz.f5,dd5,go_sem,simprocAttr,mu5,DY,Cv,Cu,DX,DZ,q20a,q20b,q20c,q21];refine⟨by unfold dOk;kernel_rfl,?_⟩;refine AS (M:=(mskOf (polG.mask 5) (polG.gc 5) (polG.acts 5) 0 5)) (by rfl) 4 (fun i=>(⟨248,[(16,I i),(15,.sl true [autoAV a,autoAV b,autoAV s,autoAV c]),(13,.rf 0 1 0 0)],[.row 3 [autoAV a] 0,.row 3 [autoAV b] 0]⟩:St)) (fun i=>True) ?_ ?_ trivial _ (by first|rfl|(refine AO rfl (by rfl) (by rfl) (by rfl) ?_ ?_<;>simp[AV.underL,AV.under,MB.under,AG,AJ,AF,AH,AK,AM,-map_take,AP,AT,AN]))
 ·intro i hi _;obtain⟨x,hx,hxb⟩:∃ x,([autoAV a,autoAV b,autoAV s,autoAV c]:List AV)[i]?=some (autoAV x)/\AutoB x:=by
   rcases(by omega:i=0∨i=1∨i=2∨i=3) with rfl|rfl|rfl|rfl
   ·exact⟨a,rfl,hab⟩
   ·exact⟨b,rfl,hbb⟩
   ·exact⟨s,rfl,hsb⟩
   ·exact⟨c,rfl,hcb⟩
  have q23a:=c23 a;have q23x:=c23 x;have q26:=fun H=>Bp 26 (by decide) (by decide) (f26 x hxb H);have q27:=fun H=>Bp 27 (by decide) (by decide) (f27 x hxb H);have q28:=fun H=>Bp 28 (by decide) (by decide) (f28 x hxb H);have q29:=fun H=>Bp 29 (by decide) (by decide) (f29 x hxb H);have q30:=fun H=>Bp 30 (by decide) (by decide) (f30R x hxb H);have q31:=fun H=>Bp 31 (by decide) (by decide) (f31 x hxb H);have q18:=fun H=>Bp 18 (by decide) (by decide) (f18 x hxb H);have q32:=fun H=>Bp 32 (by decide) (by decide) (f32d x hxb H);have q33:=fun H=>Bp 33 (by decide) (by decide) (f33 a x hab hxb H);have q34a:=fun H=>Bp 34 (by decide) (by decide) (f34 0 (fun x y=>x&&y) (.inl ⟨rfl,rfl⟩) a x hab hxb H);have q35:=fun H=>Bp 35 (by decide) (by decide) (f35 x a hxb hab H);have q34b:=fun H=>Bp 34 (by decide) (by decide) (f34 1 (fun x y=>x||y) (.inr ⟨rfl,rfl⟩) x a hxb hab H);have q36:=fun H=>Bp 36 (by decide) (by decide) (f36g a x hab hxb H);have q16:=fun H=>Bp 16 (by decide) (by decide) (f16g a x hab hxb H);have z1:AutoB (ofValid x lstW).1:=GP fun _ hg hd=>OX hg hd;have z2:AutoB (ofValid x fun a=>lstW (notA a)).1:=GP fun _ hg hd=>OX (Er hg) hd;have z3:AutoB (ofValid x revW).1:=GP fun _ hg hd=>T3 hg hd;have z4:=RH (fun x y=>x&&y) a x;have z5:=RH (fun x y=>x||y) x a;unfold meetW at q33;unfold unionW at q35;generalize ofValid x lstW=r1 at *;generalize (ofValid x fun a=>lstW (notA a))=r2 at *;generalize ofValid x revW=r3 at *;generalize combW (fun x y=>x&&y) a x=r4 at *;generalize combW (fun x y=>x||y) x a=r5 at *;generalize validW (dividesA x.cl) x=vx at *;generalize sameA a x=sax at *;have q16a:=c16 r1.1 z1;have q16b:=c16 r2.1 z2;have q16c:=c16 r3.1 z3;have q16d:=c16 r4.1 z4;have q16e:=c16 r5.1 z5;have q17:=c17;have hxl:(x.nx.length:Int)<=1000000:=by have:=hxb.nx;omega
  unfold pairAV at q26 q27 q28 q29 q30 q31 q33 q34a q34b q35;obtain⟨r1,e1⟩:=r1;obtain⟨r2,e2⟩:=r2;obtain⟨r3,e3⟩:=r3;obtain⟨r4,e4⟩:=r4;obtain⟨r5,e5⟩:=r5;simp only at *;generalize hAL:([autoAV a,autoAV b,autoAV s,autoAV c]:List AV)=AL at *;have hALl:AL.length=4:=by rw[<- hAL];rfl
  have hALu:AV.underL 2 AL=true:=by rw[<- hAL];exact AG _ _ (by simp only[AV.plainL,AX];rfl)
  have u1:∀ r:AutoL,AV.underL 0 [autoAV r]=true:=fun r=>AG _ _ (by simp only[AV.plainL,AX];rfl);have u2:∀ r t:AutoL,AV.underL 0 [autoAV r,autoAV t]=true:=fun r t=>AG _ _ (by simp only[AV.plainL,AX];rfl);have u3:∀(r t:AutoL) (k:Int),AV.underL 0 [autoAV r,autoAV t,I k]=true:=fun r t k=>AG _ _ (by simp only[AV.plainL,AX];rfl);have u4:∀ r:AutoL,AV.under 0 (autoAV r)=true:=fun r=>AJ _ _ (AX r);have u5:∀(r:AutoL) (e:Int),AV.under 0 (.tup [autoAV r,I e])=true:=fun r e=>AJ _ _ (Am (r,e));have e23:∀(r:AutoL) H,evAlone (call Pg polG) 23 [autoAV r] H=some (autoAV r,H):=fun r=>Cz (c23 r) (u1 r) (u4 r);have e33:=Cz q33 (u2 _ _) (u5 _ _);have e35:=Cz q35 (u2 _ _) (u5 _ _);have e34a:=Cz q34a (u3 _ _ _) (u5 _ _);have e34b:=Cz q34b (u3 _ _ _) (u5 _ _);have e23a:=e23 a;have e23x:=e23 x;cases sax
  all_goals
   by_cases hlen:(x.nx.length:Int)<100
   ·simp +contextual (disch:=omega) only[Tryz.f5,dd5,go_sem,simprocAttr,mu5,DY,Cv,Cu,DX,DZ,hx,hALl,q23a,q23x,q26,q27,q28,q29,q30,q31,q18,q32,q33,q34a,q34b,q35,q36,q16,q16a,q16b,q16c,q16d,q16e,q17,hlen,e23a,e23x,e33,e35,e34a,e34b];repeat' (first|intro _|apply And.intro|(unfold dOk;kernel_rfl)|exact St.beq_refl _|exact Ah|(show altO _ _ _ _=true;kernel_rfl)|(show (_||_)=true;kernel_rfl)|(show (_&&_)=true;kernel_rfl))
    all_goals first|exact(by first|rfl|(refine AO rfl (by rfl) (by rfl) (by rfl) ?_ ?_<;>simp[AV.underL,AV.under,MB.under,AG,AJ,AF,AH,AK,AM,-map_take,AP,AT,AN,hALu]))|exact⟨_,rfl⟩|(exfalso;rename_i h;exact absurd h (by decide))|trace_state
   ·by_cases hlen2:(1024:Int)<(x.nx.length:Int)
    ·simp +contextual (disch:=omega) only[Tryz.f5,dd5,go_sem,simprocAttr,mu5,DY,Cv,Cu,DX,DZ,hx,hALl,q23a,q23x,q26,q27,q28,q29,q30,q31,q18,q32,q33,q34a,q34b,q35,q36,q16,q16a,q16b,q16c,q16d,q16e,q17,hlen,e23a,e23x,e33,e35,e34a,e34b,hlen2];repeat' (first|intro _|apply And.intro|(unfold dOk;kernel_rfl)|exact St.beq_refl _|exact Ah|(show altO _ _ _ _=true;kernel_rfl)|(show (_||_)=true;kernel_rfl)|(show (_&&_)=true;kernel_rfl))
     all_goals first|exact(by first|rfl|(refine AO rfl (by rfl) (by rfl) (by rfl) ?_ ?_<;>simp[AV.underL,AV.under,MB.under,AG,AJ,AF,AH,AK,AM,-map_take,AP,AT,AN,hALu]))|exact⟨_,rfl⟩|(exfalso;rename_i h;exact absurd h (by decide))|trace_state
    ·simp +contextual (disch:=omega) only[Tryz.f5,dd5,go_sem,simprocAttr,mu5,DY,Cv,Cu,DX,DZ,hx,hALl,q23a,q23x,q26,q27,q28,q29,q30,q31,q18,q32,q33,q34a,q34b,q35,q36,q16,q16a,q16b,q16c,q16d,q16e,q17,hlen,e23a,e23x,e33,e35,e34a,e34b,hlen2];repeat' (first|intro _|apply And.intro|(unfold dOk;kernel_rfl)|exact St.beq_refl _|exact Ah|(show altO _ _ _ _=true;kernel_rfl)|(show (_||_)=true;kernel_rfl)|(show (_&&_)=true;kernel_rfl))
     all_goals first|exact(by first|rfl|(refine AO rfl (by rfl) (by rfl) (by rfl) ?_ ?_<;>simp[AV.underL,AV.under,MB.under,AG,AJ,AF,AH,AK,AM,-map_take,AP,AT,AN,hALu]))|exact⟨_,rfl⟩|(exfalso;rename_i h;exact absurd h (by decide))|trace_state
 ·intro _;simp +contextual (disch:=omega) only[Tryz.f5,dd5,go_sem,simprocAttr,mu5,DY,Cv,Cu,DX,DZ,c19];exact⟨_,rfl⟩
theorem L6 (l:List Int) (hl:∀ x∈l,In64 x) (k:List Int) (hk:∀ x∈k,In64 x) (how:Int) (h1:In64 how) (at_:Int) (h2:In64 at_) (by_:Int) (h3:In64 by_) (runes:Bool) (H:List MB) :
 call Pg polG 5 [.sl false (l.map I),.sl false (k.map I),I how,I at_,I by_,.bool runes] H=some (.bool true,H):=law5 l k how at_ by_ runes hl hk h1 h2 h3 H
end
end Go.Ev
