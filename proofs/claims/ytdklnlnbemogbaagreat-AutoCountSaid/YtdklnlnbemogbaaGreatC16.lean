/- What functions of the program compute; no further conditions. -/
import Derived.Test.YtdklnlnbemogbaaGreatC07
import Derived.Test.YtdklnlnbemogbaaGreatC15
import Derived.Test.YtdklnlnbemogbaaGreatC14
import Derived.Shelf.SlSortCmp.NoneTotal
set_option linter.unusedVariables false
set_option linter.unusedSimpArgs false
namespace Go.Ev
section
attribute [local go_sem] evAppend
open Go.Proofs Go.RowKit Go.IntWalk
set_option maxRecDepth 100000
set_option maxHeartbeats 4000000
def aroundI (n m:Int):Int:=(if n<0 then-(n+1) else n) % m
def In64 (n:Int):Prop:=-9223372036854775808≤n∧n≤9223372036854775807
theorem around_lt {n m:Int} (h:0<m):0≤aroundI n m∧aroundI n m<m:=by
 unfold aroundI
 have:0≤(if n<0 then-(n+1) else n):=by split<;>omega
 exact⟨Int.emod_nonneg _ (by omega),Int.emod_lt_of_pos _ h⟩
theorem f12 (n m:Int) (hn:In64 n) (hm:m≠0) (H:List MB):call Tryz.prog pol1 10 [.int .i64 n,.int .i64 m] H=some (I (aroundI n m),H):=by
 obtain⟨h1,h2⟩:=hn
 refine call_run Tryz.func10 rfl rfl rfl rfl rfl rfl (fun _=>rfl) (by simp[AV.plain,AV.plainL,plain_ints,plain_span,plain_ins,plain_prg]) (by simp[AV.plain,AV.plainL,plain_ints,plain_span,plain_ins,plain_prg]) ?_ H
 simp +contextual (disch:=omega) only[Tryz.f10,dd10,go_sem,simprocAttr,mu10,↓wrap_up,↓wrap_down,↓wrap_pred,↓wrap_sub_nat]
 unfold aroundI
 refine⟨fun h=>⟨hm,fzEq rfl ?_⟩,fun h=>⟨hm,fzEq rfl ?_⟩⟩
 ·rw[if_pos h];try (congr 2;omega)
 ·rw[if_neg h]
def pickI (l:List Int) (i m:Int):Int:=if i<0 then 0 else match l[i.toNat]? with
 | some x=>aroundI x m
 | none=>0
theorem pick_lt {l:List Int}{i m:Int} (h:0<m):0≤pickI l i m∧pickI l i m<m:=by
 unfold pickI
 split
 ·omega
 ·split
  ·exact around_lt h
  ·omega
theorem f57 (l:List Int) (i m:Int) (hl:∀ x∈l,In64 x) (hm:m≠0) (H:List MB):call Tryz.prog pol1 70 [.sl false (l.map I),.int .i64 i,.int .i64 m] H=some (I (pickI l i m),H):=by
 refine call_run Tryz.func70 rfl rfl rfl rfl rfl rfl (fun _=>rfl) (by simp[AV.plain,AV.plainL,plain_ints,plain_span,plain_ins,plain_prg]) (by simp[AV.plain,AV.plainL,plain_ints,plain_span,plain_ins,plain_prg]) ?_ H
 by_cases h0:i<0
 ·have e:pickI l i m=0:=by simp[pickI,h0]
  rw[e]
  simp +contextual (disch:=omega) only[Tryz.f70,dd70,go_sem,simprocAttr,mu70,↓wrap_up,↓wrap_down,↓wrap_pred,↓wrap_sub_nat]
  exact fzEq rfl rfl
 ·obtain⟨k,rfl⟩:∃ k:Nat,i=k:=⟨i.toNat,by omega⟩
  by_cases h1:k<l.length
  ·obtain⟨p,hp⟩:∃ p,l[k]?=some p:=⟨_,List.getElem?_eq_getElem h1⟩
   have e:pickI l k m=aroundI p m:=by simp[pickI,h0,hp]
   rw[e]
   have hf:=f12 p m (hl p (List.mem_of_getElem? hp)) hm
   simp +contextual (disch:=omega) only[Tryz.f70,dd70,go_sem,simprocAttr,mu70,↓wrap_up,↓wrap_down,↓wrap_pred,↓wrap_sub_nat,hp,hf]
   exact fzEq rfl rfl
  ·have e:pickI l k m=0:=by simp[pickI,List.getElem?_eq_none (Nat.le_of_not_lt h1)]
   rw[e]
   simp +contextual (disch:=omega) only[Tryz.f70,dd70,go_sem,simprocAttr,mu70,↓wrap_up,↓wrap_down,↓wrap_pred,↓wrap_sub_nat]
   exact fzEq rfl rfl
end
end Go.Ev
namespace Go.Ev
open Go.Proofs Go.Shelf Go.RowKit Go.Lib Go.Sort
theorem eg137:∀ args w,(callFunc 137 args).run Tryz.prog w=.ok (.enter 137 args) w:=enters_of Tryz.func137 (by kernel_rfl) rfl
theorem eg138:∀ args w,(callFunc 138 args).run Tryz.prog w=.ok (.enter 138 args) w:=enters_of Tryz.func138 (by kernel_rfl) rfl
theorem eg166:∀ args w,(callFunc 166 args).run Tryz.prog w=.ok (.enter 166 args) w:=enters_of Tryz.func166 (by kernel_rfl) rfl
theorem eg167:∀ args w,(callFunc 167 args).run Tryz.prog w=.ok (.enter 167 args) w:=enters_of Tryz.func167 (by kernel_rfl) rfl
theorem eg178:∀ args w,(callFunc 178 args).run Tryz.prog w=.ok (.enter 178 args) w:=enters_of Tryz.func178 (by kernel_rfl) rfl
theorem eg179:∀ args w,(callFunc 179 args).run Tryz.prog w=.ok (.enter 179 args) w:=enters_of Tryz.func179 (by kernel_rfl) rfl
theorem sort137_sound {args:List AV}{H H':List MB}{r:AV} (h:sort2Ext Sml 138 srtE args H=some (r,H')):CallSound Tryz.prog 137 args H r H':=by
 refine sort2_sound Sml srtE_size eg137 (fun p cap fv w=>AnyF.slices_SortFunc_none Tryz.sortL p cap fv w) (fun blk off cap d w hH hblk hsz=>?_) h
 exact AnyQ.slices_SortFunc_eq Tryz.sortL 2 Tryz.isAgg147 Tryz.sizeOf147 Sml.enc (fun _=>rfl) (fun x v hv=>by simp[El.enc,enc2]at hv;rcases hv with rfl|rfl<;>rfl) cfE swoE 138 #[] blk off cap d w eg138
  (fun _ _ _ _ x y=>closure138 x y _) hH hblk hsz
theorem sort166_sound {args:List AV}{H H':List MB}{r:AV} (h:sort2Ext Sml 167 srtE args H=some (r,H')):CallSound Tryz.prog 166 args H r H':=by
 refine sort2_sound Sml srtE_size eg166 (fun p cap fv w=>AnyF.slices_SortFunc_none Tryz.sortM p cap fv w) (fun blk off cap d w hH hblk hsz=>?_) h
 exact AnyQ.slices_SortFunc_eq Tryz.sortM 2 Tryz.isAgg33 Tryz.sizeOf33 Sml.enc (fun _=>rfl) (fun x v hv=>by simp[El.enc,enc2]at hv;rcases hv with rfl|rfl<;>rfl) cfE swoE 167 #[] blk off cap d w eg167
  (fun _ _ _ _ x y=>closure167 x y _) hH hblk hsz
theorem sort178_sound {args:List AV}{H H':List MB}{r:AV} (h:sort3iExt Plc 179 srtP args H=some (r,H')):CallSound Tryz.prog 178 args H r H':=by
 refine sort3i_sound Plc srtP_size eg178 (fun p cap fv w=>AnyF.slices_SortFunc_none Tryz.sortP p cap fv w) (fun blk off cap d w hH hblk hsz=>?_) h
 exact AnyQ.slices_SortFunc_eq Tryz.sortP 3 Tryz.isAgg201 Tryz.sizeOf201 Plc.enc (fun _=>rfl) (fun x v hv=>by simp[El3.enc,enc3]at hv;rcases hv with rfl|rfl|rfl<;>rfl) cfP swoP 179 #[] blk off cap d w eg179
  (fun _ _ _ _ x y=>closure179 x y _) hH hblk hsz
end Go.Ev
namespace Go.Ev
open Go.Proofs Go.RowKit
theorem ext_cases {f:Nat}{g:List AV→List MB→Option (AV×List MB)} (hg:pol1.ext f=some g):(f=156∧g=cloneExt 2 16)∨(f=97∧g=ext49)∨(f=137∧g=sort2Ext Sml 138 srtE)∨(f=166∧g=sort2Ext Sml 167 srtE)∨(f=178∧g=sort3iExt Plc 179 srtP)∨(f=187∧g=cloneExt 2 16):=by
 have e:pol1.ext f=if f=156 then some (cloneExt 2 16) else if f=97 then some ext49 else if f=137 then some (sort2Ext Sml 138 srtE) else if f=166 then some (sort2Ext Sml 167 srtE) else if f=178 then some (sort3iExt Plc 179 srtP) else if f=187 then some (cloneExt 2 16) else none:=rfl
 rw[e]at hg
 by_cases h:f=156
 ·rw[if_pos h]at hg;exact(.inl ⟨h,(Option.some.inj hg).symm⟩)
 rw[if_neg h]at hg;clear h
 by_cases h:f=97
 ·rw[if_pos h]at hg;exact(.inr (.inl ⟨h,(Option.some.inj hg).symm⟩))
 rw[if_neg h]at hg;clear h
 by_cases h:f=137
 ·rw[if_pos h]at hg;exact(.inr (.inr (.inl ⟨h,(Option.some.inj hg).symm⟩)))
 rw[if_neg h]at hg;clear h
 by_cases h:f=166
 ·rw[if_pos h]at hg;exact(.inr (.inr (.inr (.inl ⟨h,(Option.some.inj hg).symm⟩))))
 rw[if_neg h]at hg;clear h
 by_cases h:f=178
 ·rw[if_pos h]at hg;exact(.inr (.inr (.inr (.inr (.inl ⟨h,(Option.some.inj hg).symm⟩)))))
 rw[if_neg h]at hg;clear h
 by_cases h:f=187
 ·rw[if_pos h]at hg;exact(.inr (.inr (.inr (.inr (.inr (⟨h,(Option.some.inj hg).symm⟩))))))
 rw[if_neg h]at hg;clear h
 cases hg
theorem ext1:ExtOk Tryz.prog pol1:=by
 intro f g hg args H r H' h
 rcases ext_cases hg with ⟨rfl,rfl⟩|⟨rfl,rfl⟩|⟨rfl,rfl⟩|⟨rfl,rfl⟩|⟨rfl,rfl⟩|⟨rfl,rfl⟩
 ·exact clone_sound (T:=23) (B:=4) (e:=33) (k:=2) (by_:=16) (ze:=.agg [.int .i64 0,.int .i64 0])
   Tryz.func156 rfl rfl rfl rfl (by kernel_rfl) (by kernel_rfl) (by omega) (by kernel_rfl) (by kernel_rfl) rfl rfl h
 ·exact ext49_sound h
 ·exact sort137_sound h
 ·exact sort166_sound h
 ·exact sort178_sound h
 ·exact clone_sound (T:=91) (B:=4) (e:=211) (k:=2) (by_:=16) (ze:=.agg [.int .i64 0,.int .i64 0])
   Tryz.func187 rfl rfl rfl rfl (by kernel_rfl) (by kernel_rfl) (by omega) (by kernel_rfl) (by kernel_rfl) rfl rfl h
theorem follows1:Tryz.prog.follows .mixedOrders=true:=by kernel_rfl
theorem ok1:CfOk Tryz.prog (call Tryz.prog pol1):=call_ok ext1 follows1
section
attribute [local go_sem] evAppend
open Go.Proofs Go.RowKit Go.IntWalk
set_option maxRecDepth 100000
set_option maxHeartbeats 2000000
theorem f136 (a b:Int) (H:List MB):call Tryz.prog pol1 173 [.agg [.int .i64 a,.int .i64 b]] H=some (.bool (decide (0≤a∧a≤b∧b≤1114111)),H):=by
 refine call_run Tryz.func173 rfl rfl rfl rfl rfl rfl (fun _=>rfl) (by simp[AV.plain,AV.plainL,plain_ints,plain_span,plain_ins,plain_prg]) (by simp[AV.plain,AV.plainL,plain_ints,plain_span,plain_ins,plain_prg]) ?_ H
 simp only[Tryz.f173,dd173,go_sem,simprocAttr,mu173]
 repeat' (first|intro _|apply And.intro|refine fzEq rfl ?_)
 all_goals (congr 1;simp only[decide_eq_decide,false_eq_decide_iff];omega)
def badAt (l:List (Int×Int)) (i:Nat):Bool:=
 match l[i]? with
 | some p=>!decide (0≤p.1∧p.1≤p.2∧p.2≤1114111)||(match i with
   | 0=>false
   | k+1=>match l[k]? with
     | some q=>decide (p.1-q.2<2)
     | none=>false)
 | none=>false
def refSpans (l:List (Int×Int)):Int:=if(List.range l.length).any (badAt l) then 1 else if 64<l.length then 4 else 0
theorem refSpans_bad {l:List (Int×Int)}{i:Nat} (hi:i<l.length) (h:badAt l i=true):refSpans l=1:=by
 unfold refSpans
 rw[if_pos]
 exact List.any_eq_true.2 ⟨i,List.mem_range.2 hi,h⟩
theorem refSpans_good {l:List (Int×Int)} (h:∀ k,k<l.length→badAt l k=false):refSpans l=if 64<l.length then 4 else 0:=by
 unfold refSpans
 rw[if_neg]
 intro h2
 obtain⟨k,h3,h4⟩:=List.any_eq_true.1 h2
 rw[h k (List.mem_range.1 h3)]at h4
 cases h4
theorem f119 (l:List (Int×Int)) (hl:l.length≤1000000) (H:List MB):call Tryz.prog pol1 119 [.sl false (l.map spanAV)] H=some (I (refSpans l),H):=by
 refine call_run Tryz.func119 rfl rfl rfl rfl rfl rfl (fun _=>rfl) (by simp[AV.plain,AV.plainL,plain_ints,plain_span,plain_ins,plain_prg]) (by simp[AV.plain,AV.plainL,plain_ints,plain_span,plain_ins,plain_prg]) ?_ H
 simp only[Tryz.f119,dd119,go_sem,simprocAttr,mu119]
 refine W_count (M:=(mskOf (pol1.mask 119) (pol1.gc 119) (pol1.acts 119) 0 2)) rfl l.length (fun i=>(⟨40,[(3,I i),(0,.sl false (l.map spanAV))],[]⟩:St)) (fun i=>∀ k,k<i→badAt l k=false) ?_ ?_ (fun k h=>by omega) _ rfl
 ·intro i hlt hg
  obtain⟨p,hp⟩:∃ p,l[i]?=some p:=⟨_,List.getElem?_eq_getElem hlt⟩
  have ext:badAt l i=false→∀ k,k<i+1→badAt l k=false:=fun h k hk=>by
   rcases Nat.lt_or_ge k i with h1|h1
   ·exact hg k h1
   ·obtain rfl:k=i:=by omega
    exact h
  by_cases hgd:0≤p.1∧p.1≤p.2∧p.2≤1114111
  ·rcases i with _|i
   ·simp +contextual (disch:=omega) only[Tryz.f119,dd119,go_sem,simprocAttr,mu119,↓wrap_up,↓wrap_down,↓wrap_pred,↓wrap_sub_nat,hp,spanAV,hgd,f136]
    refine⟨by unfold dOk;kernel_rfl,ext ?_,rfl⟩
    simp[badAt,hp,hgd]
   ·obtain⟨q,hq⟩:∃ q,l[i]?=some q:=⟨_,List.getElem?_eq_getElem (by omega)⟩
    have hbq:=hg i (by omega)
    simp only[badAt,hq,Bool.or_eq_false_iff,Bool.not_eq_false',decide_eq_true_eq]at hbq
    replace hbq:=hbq.1
    have hb:badAt l (i+1)=decide (p.1-q.2<2):=by simp[badAt,hp,hq,hgd]
    simp +contextual (disch:=omega) only[Tryz.f119,dd119,go_sem,simprocAttr,mu119,↓wrap_up,↓wrap_down,↓wrap_pred,↓wrap_sub_nat,hp,hq,spanAV,hgd,f136]
    refine⟨by unfold dOk;kernel_rfl,?_⟩
    refine⟨fun h=>fzEq rfl ?_,fun h=>⟨ext ?_,rfl⟩⟩
    ·rw[refSpans_bad hlt];simp[hb];omega
    ·simp[hb];omega
  ·simp +contextual (disch:=omega) only[Tryz.f119,dd119,go_sem,simprocAttr,mu119,↓wrap_up,↓wrap_down,↓wrap_pred,↓wrap_sub_nat,hp,spanAV,hgd,f136]
   refine⟨by unfold dOk;kernel_rfl,fzEq rfl ?_⟩
   rw[refSpans_bad hlt (by simp only[badAt,hp];simp only[hgd,decide_false,Bool.not_false,Bool.true_or])]
 ·intro hg
  rw[refSpans_good hg]
  simp +contextual (disch:=omega) only[Tryz.f119,dd119,go_sem,simprocAttr,mu119,↓wrap_up,↓wrap_down,↓wrap_pred,↓wrap_sub_nat]
  refine⟨fun h=>fzEq rfl ?_,fun h=>fzEq rfl ?_⟩
  ·rw[if_pos (by omega)]
  ·rw[if_neg (by omega)]
end
section
attribute [local go_sem] evAppend
open Go.Proofs Go.RowKit Go.IntWalk
set_option maxRecDepth 100000
set_option maxHeartbeats 2000000
theorem f91 (a b:Int) (H:List MB):call Tryz.prog pol1 136 [.agg [.int .i64 a,.int .i64 b]] H=some (.bool (decide (0≤a∧a≤b∧b≤1114111)),H):=by
 refine call_run Tryz.func136 rfl rfl rfl rfl rfl rfl (fun _=>rfl) (by simp[AV.plain,AV.plainL,plain_ints,plain_span,plain_ins,plain_prg]) (by simp[AV.plain,AV.plainL,plain_ints,plain_span,plain_ins,plain_prg]) ?_ H
 simp only[Tryz.f136,dd136,go_sem,simprocAttr,mu136]
 repeat' (first|intro _|apply And.intro|refine fzEq rfl ?_)
 all_goals (congr 1;simp only[decide_eq_decide,false_eq_decide_iff];omega)
theorem f121 (l:List (Int×Int)) (hl:l.length≤1000000) (H:List MB):call Tryz.prog pol1 88 [.sl false (l.map spanAV)] H=some (I (refSpans l),H):=by
 refine call_run Tryz.func88 rfl rfl rfl rfl rfl rfl (fun _=>rfl) (by simp[AV.plain,AV.plainL,plain_ints,plain_span,plain_ins,plain_prg]) (by simp[AV.plain,AV.plainL,plain_ints,plain_span,plain_ins,plain_prg]) ?_ H
 simp only[Tryz.f88,dd88,go_sem,simprocAttr,mu88]
 refine W_count (M:=(mskOf (pol1.mask 88) (pol1.gc 88) (pol1.acts 88) 0 2)) rfl l.length (fun i=>(⟨35,[(7,I i),(6,I l.length),(5,.sl false (l.map spanAV)),(0,.sl false (l.map spanAV))],[]⟩:St)) (fun i=>∀ k,k<i→badAt l k=false) ?_ ?_ (fun k h=>by omega) _ (by first|rfl|(refine prep_cut rfl (by rfl) (by rfl) (by rfl) ?_ ?_<;>simp[AV.underL,AV.under,MB.under,underL_plain,under_plain,plain_ints,plain_span,plain_ins,plain_prg,-List.map_take]))
 ·intro i hlt hg
  obtain⟨p,hp⟩:∃ p,l[i]?=some p:=⟨_,List.getElem?_eq_getElem hlt⟩
  have ext:badAt l i=false→∀ k,k<i+1→badAt l k=false:=fun h k hk=>by
   rcases Nat.lt_or_ge k i with h1|h1
   ·exact hg k h1
   ·obtain rfl:k=i:=by omega
    exact h
  by_cases hgd:0≤p.1∧p.1≤p.2∧p.2≤1114111
  ·rcases i with _|i
   ·simp +contextual (disch:=omega) only[Tryz.f88,dd88,go_sem,simprocAttr,mu88,↓wrap_up,↓wrap_down,↓wrap_pred,↓wrap_sub_nat,hp,spanAV,hgd,f91]
    refine⟨by unfold dOk;kernel_rfl,ext ?_,(by first|rfl|(refine prep_cut rfl (by rfl) (by rfl) (by rfl) ?_ ?_<;>simp[AV.underL,AV.under,MB.under,underL_plain,under_plain,plain_ints,plain_span,plain_ins,plain_prg,-List.map_take]))⟩
    simp[badAt,hp,hgd]
   ·obtain⟨q,hq⟩:∃ q,l[i]?=some q:=⟨_,List.getElem?_eq_getElem (by omega)⟩
    have hbq:=hg i (by omega)
    simp only[badAt,hq,Bool.or_eq_false_iff,Bool.not_eq_false',decide_eq_true_eq]at hbq
    replace hbq:=hbq.1
    have hb:badAt l (i+1)=decide (p.1-q.2<2):=by simp[badAt,hp,hq,hgd]
    simp +contextual (disch:=omega) only[Tryz.f88,dd88,go_sem,simprocAttr,mu88,↓wrap_up,↓wrap_down,↓wrap_pred,↓wrap_sub_nat,hp,hq,spanAV,hgd,f91]
    refine⟨by unfold dOk;kernel_rfl,fun h=>fzEq rfl ?_,fun h=>⟨ext ?_,(by first|rfl|(refine prep_cut rfl (by rfl) (by rfl) (by rfl) ?_ ?_<;>simp[AV.underL,AV.under,MB.under,underL_plain,under_plain,plain_ints,plain_span,plain_ins,plain_prg,-List.map_take]))⟩⟩
    ·rw[refSpans_bad hlt];simp[hb];omega
    ·simp[hb];omega
  ·simp +contextual (disch:=omega) only[Tryz.f88,dd88,go_sem,simprocAttr,mu88,↓wrap_up,↓wrap_down,↓wrap_pred,↓wrap_sub_nat,hp,spanAV,hgd,f91]
   refine⟨by unfold dOk;kernel_rfl,fzEq rfl ?_⟩
   rw[refSpans_bad hlt (by simp only[badAt,hp];simp only[hgd,decide_false,Bool.not_false,Bool.true_or])]
 ·intro hg
  rw[refSpans_good hg]
  simp +contextual (disch:=omega) only[Tryz.f88,dd88,go_sem,simprocAttr,mu88,↓wrap_up,↓wrap_down,↓wrap_pred,↓wrap_sub_nat]
  refine⟨fun h=>fzEq rfl ?_,fun h=>fzEq rfl ?_⟩
  ·rw[if_pos (by omega)]
  ·rw[if_neg (by omega)]
end
end Go.Ev
namespace Go.Ev
open Go.Sort
abbrev Pl:=Int×Int×Int
def plL (xs:List Pl):List Plc.α:=xs
def sortP (xs:List Pl):List Pl:=(srtP (plL xs).toArray).toList.map Plc.val
theorem plL_val (xs:List Pl):(plL xs).map Plc.val=xs:=List.map_id xs
theorem plL_len (xs:List Pl):(plL xs).length=xs.length:=rfl
theorem sortP_perm (xs:List Pl):(sortP xs).Perm xs:=by
 obtain⟨h1,_,h3⟩:=(srtP_holds (plL xs).toArray).1
 have e1:(srtP (plL xs).toArray).extract 0 (plL xs).toArray.size=srtP (plL xs).toArray:=by rw[← h1];exact Array.extract_size
 rw[e1,Array.extract_size]at h3
 have:=h3.map Plc.val
 rw[show ((plL xs).toArray.toList)=plL xs from rfl,plL_val]at this
 exact this
theorem sortP_sorted (xs:List Pl):(sortP xs).Pairwise (fun a b=>a.1≤b.1):=by
 have h2:=(srtP_holds (plL xs).toArray).2
 have hs:=srtP_size (plL xs).toArray
 unfold sortP
 rw[List.pairwise_map,List.pairwise_iff_getElem]
 intro i j hi hj hij
 have hi':i<(srtP (plL xs).toArray).size:=by simpa using hi
 have hj':j<(srtP (plL xs).toArray).size:=by simpa using hj
 have h3:=h2 i j (Nat.zero_le _) hij (by rw[← hs];exact hj')
 rw[ltP,getElem!_pos _ i hi',getElem!_pos _ j hj']at h3
 simp at h3
 simpa using h3
theorem sortP_length (xs:List Pl):(sortP xs).length=xs.length:=(sortP_perm xs).length_eq
theorem Plc_unL:∀(xs:List Pl),Plc.unL (xs.map el3)=some (plL xs)
 | []=>rfl
 | x::xs=>by
   simp only[List.map_cons,El3.unL,Plc_unL xs]
   rfl
theorem sort3i_eval {g:Nat}{xs:List Pl}{n:Nat} (hn:xs.length=n) (hl:n≤4000000000) {H:List MB}{id:Nat} (hr:getRow H id=some (3,xs.map el3,0)) :
  ∃ H',sort3iExt Plc g srtP [.ms id 3 n 0 n,.clo g []] H=some (.tup [],H')∧H'.length=H.length∧getRow H' id=some (3,(sortP xs).map el3,0)∧∀ k,k≠id→H'[k]?=H[k]?:=by
 subst hn
 have hlt:id<H.length:=by
  unfold getRow at hr
  rcases Nat.lt_or_ge id H.length with h1|h1
  ·exact h1
  ·rw[List.getElem?_eq_none h1]at hr;cases hr
 by_cases h0:xs.length=0
 ·have:xs=[]:=List.length_eq_zero_iff.1 h0
  subst this
  refine⟨H,by simp[sort3iExt],rfl,?_,fun k _=>rfl⟩
  have e:sortP []=[]:=List.length_eq_zero_iff.1 (by rw[sortP_length];rfl)
  rw[e];exact hr
 ·refine⟨H.set id (.row 3 ((sortP xs).map el3) 0),?_,by simp,?_,fun k hk=>List.getElem?_set_ne (fun e=>hk e.symm)⟩
  ·simp only[sort3iExt]
   rw[if_neg (by rintro⟨h,_⟩;exact h0 h)]
   simp only[hr,Plc_unL,plL_len]
   rw[if_pos ⟨trivial,trivial,trivial,by omega,by omega⟩]
   unfold sortP
   rw[List.map_map];rfl
  ·unfold getRow
   rw[List.getElem?_set_self hlt]
section
attribute [local go_sem] retE_norm retE_ret bndO bnd evEq eqCells not_false_eq_true not_true_eq_false toList_some Array.size_empty tySzE List.head?_drop Nat.mul_one sameAt_zero sameAt_two sameAt_three sameAt_four sameAt_five room_ok
open Go.Proofs Go.RowKit Go.IntWalk
set_option maxRecDepth 100000
set_option maxHeartbeats 4000000
theorem app_p {H:List MB}{i n z:Nat}{rs:List Pl}{p:Pl}{t:Bool} (hi:getRow H i=some (3,rs.map el3,z)) (hz:z≤n) (hn:rs.length=n) (hr:n+1≤4000000000) :
  evAppend Tryz.prog H 198 198 (.ms i 3 n 0 n) (.sl t [.agg [I p.1,I p.2.1,I p.2.2]])=some (.ms i 3 (n+1) 0 (n+1),H.set i (.row 3 ((rs++[p]).map el3) z)):=by
 have hs:srcElems Tryz.prog H 201 (.sl t [.agg [I p.1,I p.2.1,I p.2.2]])=some [.agg [I p.1,I p.2.1,I p.2.2]]:=rfl
 rw[evAppend_end (e:=201) (by kernel_rfl) (by kernel_rfl) (k:=3) (by kernel_rfl) (by_:=24) (by kernel_rfl) (ze:=.agg [I 0,I 0,I 0]) (by kernel_rfl) rfl (by omega) hs (by simp[AV.cells,AV.ok]) hi (by rw[List.length_map];exact hn) hz (room_ok (by simp;omega) (by omega))]
 rw[List.map_append];rfl
theorem plain_el3 (l:List Pl):AV.plainL (l.map el3)=true:=by
 rw[plainL_iff]
 intro x hx
 obtain⟨y,_,rfl⟩:=List.mem_map.1 hx
 rfl
abbrev setAV9 (s:List (Int×Int)):AV:=.sl false (s.map spanAV)
theorem plain_cls (L:List (List (Int×Int))):AV.plainL (L.map setAV9)=true:=by
 induction L with
 | nil=>rfl
 | cons a l ih=>simp[AV.plainL,AV.plain,plain_span,ih]
def plcs (i:Nat) (s:List (Int×Int)):List Pl:=s.map fun p=>(p.1,p.2,(i:Int))
def placesL:Nat→List (List (Int×Int))→List Pl
 | _,[]=>[]
 | i,s::L=>plcs i s++placesL (i+1) L
theorem placesL_snoc (s:List (Int×Int)):∀(L:List (List (Int×Int))) (i:Nat),placesL i (L++[s])=placesL i L++plcs (i+L.length) s
 | [],i=>by simp[placesL]
 | t::L,i=>by rw[List.cons_append,placesL,placesL,placesL_snoc s L (i+1),List.append_assoc,List.length_cons,show i+1+L.length=i+(L.length+1) by omega]
theorem placesL_take {L:List (List (Int×Int))}{i:Nat}{s:List (Int×Int)} (h:L[i]?=some s):placesL 0 (L.take (i+1))=placesL 0 (L.take i)++plcs i s:=by
 have hi:=(List.getElem?_eq_some_iff.1 h).1
 rw[List.take_add_one,h,Option.toList_some,placesL_snoc,List.length_take,Nat.zero_add,Nat.min_eq_left (by omega)]
theorem plcs_take {i k:Nat}{s:List (Int×Int)}{p:Int×Int} (h:s[k]?=some p):plcs i (s.take (k+1))=plcs i (s.take k)++[(p.1,p.2,(i:Int))]:=by
 rw[plcs,List.take_add_one,h,Option.toList_some,List.map_append];rfl
theorem placesL_len:∀ {L:List (List (Int×Int))}{i:Nat},(placesL i L).length=(L.map List.length).sum
 | [],_=>rfl
 | s::L,i=>by rw[placesL,List.length_append,placesL_len,plcs,List.length_map,List.map_cons,List.sum_cons]
theorem sum_take (L:List (List (Int×Int))) (i:Nat):((L.take i).map List.length).sum≤(L.map List.length).sum:=by
 have:=List.sum_append_nat (l₁:=(L.take i).map List.length) (l₂:=(L.drop i).map List.length)
 rw[← List.map_append,List.take_append_drop]at this
 omega
theorem f129 (L:List (List (Int×Int))) (hl:L.length≤1000000) (hs:(L.map List.length).sum≤1000000) (H:List MB) :
  call Tryz.prog pol1 129 [.sl false (L.map setAV9)] H=some (.sl false ((sortP (placesL 0 L)).map el3),H):=by
 have hpl:=plain_cls L
 refine call_run Tryz.func129 rfl rfl rfl rfl rfl rfl (fun _=>rfl) (by simp[AV.plain,AV.plainL,hpl]) (by simp[AV.plain,plain_el3]) ?_ H
 simp +contextual (disch:=omega) only[Tryz.f129,dd129,go_sem,simprocAttr,evAppend,List.length_append,List.map_append,mu129,↓wrap_up,↓wrap_down,↓wrap_pred,↓wrap_sub_nat]
 refine W_count (M:=(mskOf (pol1.mask 129) (pol1.gc 129) (pol1.acts 129) 0 3)) rfl L.length (fun i=>(⟨32,[(10,I i),(9,I L.length),(8,.sl false (L.map setAV9)),(3,.ms 0 3 (placesL 0 (L.take i)).length 0 (placesL 0 (L.take i)).length)],[.row 3 ((placesL 0 (L.take i)).map el3) 0]⟩:St)) (fun i=>True) ?_ ?_ trivial _ (by first|rfl|(refine prep_cut rfl (by rfl) (by rfl) (by rfl) ?_ ?_<;>simp[AV.underL,AV.under,MB.under,underL_plain,under_plain,plain_ints,plain_span,plain_ins,plain_prg,-List.map_take,plain_cls,plain_el3]))
 ·intro i hi _
  obtain⟨s,hsi⟩:∃ s,L[i]?=some s:=⟨_,List.getElem?_eq_getElem hi⟩
  have hsi':(L.map setAV9)[i]?=some (setAV9 s):=by simp[hsi]
  have hst:=placesL_take hsi
  have hln:=placesL_len (L:=L.take i) (i:=0)
  have hln2:=sum_take L i
  have hln3:=sum_take L (i+1)
  rw[← placesL_len (L:=L.take (i+1)) (i:=0),hst,List.length_append]at hln3
  have hln4:(plcs i s).length=s.length:=by simp[plcs]
  generalize placesL 0 (L.take i)=l at *
  simp +contextual (disch:=omega) only[Tryz.f129,dd129,go_sem,simprocAttr,evAppend,List.length_append,List.map_append,mu129,↓wrap_up,↓wrap_down,↓wrap_pred,↓wrap_sub_nat,hsi']
  refine W_count (M:=(mskOf (pol1.mask 129) (pol1.gc 129) (pol1.acts 129) 0 6)) rfl s.length (fun k=>(⟨32,[(17,I k),(16,I s.length),(15,.sl false (s.map spanAV)),(10,I i),(9,I L.length),(8,.sl false (L.map setAV9)),(4,I i),(3,.ms 0 3 (l++plcs i (s.take k)).length 0 (l++plcs i (s.take k)).length)],[.row 3 ((l++plcs i (s.take k)).map el3) 0]⟩:St)) (fun i=>True) ?_ ?_ trivial _ ?_
  ·intro k hk _
   obtain⟨p,hp⟩:∃ p,s[k]?=some p:=⟨_,List.getElem?_eq_getElem hk⟩
   have hp':(s.map spanAV)[k]?=some (spanAV p):=by simp[hp]
   have hst2:=plcs_take (i:=i) hp
   have hlen3:(l++plcs i (s.take k)).length≤4000000:=by rw[List.length_append,plcs,List.length_map,List.length_take];omega
   have hst3:l++plcs i (s.take (k+1))=(l++plcs i (s.take k))++[(p.1,p.2,(i:Int))]:=by rw[hst2,List.append_assoc]
   generalize l++plcs i (s.take (k+1))=l2 at *
   generalize l++plcs i (s.take k)=l1 at *
   have a1:=fun(x:MB) (t:Bool)=>app_p (H:=[MB.row 3 (l1.map el3) 0,x]) (i:=0) (p:=(p.1,p.2,(i:Int))) (t:=t) rfl (Nat.zero_le _) rfl (by omega)
   simp only[List.set_cons_zero]at a1
   rw[← hst3]at a1
   have e2:l2.length=l1.length+1:=by rw[hst3];simp
   rw[e2]
   simp +contextual (disch:=omega) only[Tryz.f129,dd129,go_sem,simprocAttr,mu129,↓wrap_up,↓wrap_down,↓wrap_pred,↓wrap_sub_nat,hp',a1]
   exact(by first|rfl|(refine prep_cut rfl (by rfl) (by rfl) (by rfl) ?_ ?_<;>simp[AV.underL,AV.under,MB.under,underL_plain,under_plain,plain_ints,plain_span,plain_ins,plain_prg,-List.map_take,plain_cls,plain_el3]))
  ·intro _
   rw[List.take_length,← hst]
   simp +contextual (disch:=omega) only[Tryz.f129,dd129,go_sem,simprocAttr,mu129,↓wrap_up,↓wrap_down,↓wrap_pred,↓wrap_sub_nat]
   exact(by first|rfl|(refine prep_cut rfl (by rfl) (by rfl) (by rfl) ?_ ?_<;>simp[AV.underL,AV.under,MB.under,underL_plain,under_plain,plain_ints,plain_span,plain_ins,plain_prg,-List.map_take,plain_cls,plain_el3]))
  ·rw[List.take_zero,show plcs i []=[] from rfl,List.append_nil]
   exact(by first|rfl|(refine prep_cut rfl (by rfl) (by rfl) (by rfl) ?_ ?_<;>simp[AV.underL,AV.under,MB.under,underL_plain,under_plain,plain_ints,plain_span,plain_ins,plain_prg,-List.map_take,plain_cls,plain_el3]))
 ·intro _
  rw[List.take_length]
  have hln:=placesL_len (L:=L) (i:=0)
  have hse:=sortP_length (placesL 0 L)
  generalize placesL 0 L=l at *
  obtain⟨H',h1,_,h2,_⟩:=sort3i_eval (g:=179) (xs:=l) (n:=l.length) rfl (by omega) (H:=[.row 3 (l.map el3) 0]) (id:=0) rfl
  have h178:call Tryz.prog pol1 178 [.ms 0 3 l.length 0 l.length,.clo 179 []] [.row 3 (l.map el3) 0]=some (.tup [],H'):=by
   rw[call_eq]
   unfold evStep
   rw[if_neg (show ¬ pol1.pure 178=true by decide)]
   exact h1
  simp +contextual (disch:=omega) only[Tryz.f129,dd129,go_sem,simprocAttr,mu129,↓wrap_up,↓wrap_down,↓wrap_pred,↓wrap_sub_nat,h178]
  exact⟨_,fz_row h2 (by rw[List.length_map];exact hse) (plain_el3 _)⟩
end
def chainA:List (Int×Int)→Int→Option Int
 | [],n=>some n
 | p::S,n=>if p.1=n then chainA S (p.2+1) else none
def sumZ:List (Int×Int)→Int
 | []=>0
 | p::S=>p.2-p.1+1+sumZ S
def apartZ (p q:Int×Int):Prop:=p.2<q.1∨q.2<p.1
def topZ:List (Int×Int)→Int
 | []=>-1
 | p::S=>max p.2 (topZ S)
theorem sumZ_perm {l l':List (Int×Int)} (h:l.Perm l'):sumZ l=sumZ l':=by
 induction h with
 | nil=>rfl
 | cons x _ ih=>simp only[sumZ,ih]
 | swap x y l=>simp only[sumZ];omega
 | trans _ _ h1 h2=>rw[h1,h2]
theorem topZ_perm {l l':List (Int×Int)} (h:l.Perm l'):topZ l=topZ l':=by
 induction h with
 | nil=>rfl
 | cons x _ ih=>simp only[topZ,ih]
 | swap x y l=>simp only[topZ];omega
 | trans _ _ h1 h2=>rw[h1,h2]
theorem topZ_ge:∀ {l:List (Int×Int)}{p:Int×Int},p∈l→p.2≤topZ l
 | q::l,p,h=>by
   rcases List.mem_cons.1 h with h|h
   ·subst h;simp only[topZ];omega
   ·have:=topZ_ge h;simp only[topZ];omega
theorem topZ_low:∀(l:List (Int×Int)),-1≤topZ l
 | []=>by simp[topZ]
 | q::l=>by have:=topZ_low l;simp only[topZ];omega
theorem chain_ge:∀ {S:List (Int×Int)}{n e:Int},chainA S n=some e→(∀ p∈S,p.1≤p.2)→n≤e∧e=n+sumZ S∧(∀ p∈S,n≤p.1∧p.2<e)
 | [],n,e,h,_=>by simp only[chainA,Option.some.injEq]at h;subst h;exact⟨Int.le_refl _,by simp[sumZ],by simp⟩
 | p::S,n,e,h,hv=>by
   rw[chainA]at h
   split at h
   ·rename_i e1
    have hp:=hv p (by simp)
    obtain⟨a,b,c⟩:=chain_ge h (fun q hq=>hv q (by simp[hq]))
    refine⟨by omega,by simp only[sumZ];omega,?_⟩
    intro q hq
    rcases List.mem_cons.1 hq with h|h
    ·subst h;omega
    ·have:=c q h;omega
   ·simp at h
theorem chain_apart:∀ {S:List (Int×Int)}{n e:Int},chainA S n=some e→(∀ p∈S,p.1≤p.2)→S.Pairwise apartZ
 | [],_,_,_,_=>.nil
 | p::S,n,e,h,hv=>by
   rw[chainA]at h
   split at h
   ·refine .cons (fun q hq=>?_) (chain_apart h fun q hq=>hv q (by simp[hq]))
    have:=(chain_ge h fun q hq=>hv q (by simp[hq])).2.2 q hq
    left;omega
   ·simp at h
theorem chain_top:∀ {S:List (Int×Int)}{n e:Int},chainA S n=some e→(∀ p∈S,p.1≤p.2)→S≠[]→topZ S=max (e-1) (-1)
 | [],_,_,_,_,h=>(h rfl).elim
 | p::S,n,e,h,hv,_=>by
   rw[chainA]at h
   split at h
   ·have hs:=fun q (hq:q∈S)=>hv q (List.mem_cons_of_mem _ hq)
    cases S with
    | nil=>simp only[chainA,Option.some.injEq]at h;subst h;simp only[topZ];omega
    | cons q S=>
      have:=chain_top h hs (by simp)
      have h2:=(chain_ge h hs).1
      rw[topZ,this];omega
   ·simp at h
theorem sumZ_le:∀ {S:List (Int×Int)}{n top:Int},S.Pairwise (fun p q=>p.1≤q.1)→S.Pairwise apartZ→(∀ p∈S,p.1≤p.2∧n≤p.1∧p.2≤top)→n≤top+1→sumZ S≤top+1-n
 | [],_,_,_,_,_,h=>by simp only[sumZ];omega
 | p::S,n,top,h1,h2,h3,h=>by
   obtain⟨a1,a2⟩:=List.pairwise_cons.1 h1
   obtain⟨b1,b2⟩:=List.pairwise_cons.1 h2
   have hp:=h3 p (by simp)
   have:=sumZ_le (n:=p.2+1) (top:=top) a2 b2 (fun q hq=>by
    have c1:=a1 q hq
    have c3:=h3 q (by simp[hq])
    rcases b1 q hq with h|h<;>omega) (by omega)
   simp only[sumZ];omega
theorem chain_of:∀ {S:List (Int×Int)}{n top:Int},S.Pairwise (fun p q=>p.1≤q.1)→S.Pairwise apartZ→(∀ p∈S,p.1≤p.2∧n≤p.1∧p.2≤top)→sumZ S=top+1-n→chainA S n=some (top+1)
 | [],n,top,_,_,_,h=>by simp only[sumZ]at h;simp only[chainA,Option.some.injEq];omega
 | p::S,n,top,h1,h2,h3,h=>by
   obtain⟨a1,a2⟩:=List.pairwise_cons.1 h1
   obtain⟨b1,b2⟩:=List.pairwise_cons.1 h2
   have hp:=h3 p (by simp)
   have hq:∀ q∈S,q.1≤q.2∧p.2+1≤q.1∧q.2≤top:=fun q hq=>by
    have c1:=a1 q hq
    have c3:=h3 q (by simp[hq])
    rcases b1 q hq with h|h<;>omega
   have h4:=sumZ_le (n:=p.2+1) (top:=top) a2 b2 hq (by omega)
   simp only[sumZ]at h
   rw[chainA,if_pos (by omega)]
   exact chain_of a2 b2 hq (by omega)
theorem apartZ_symm {p q:Int×Int} (h:apartZ p q):apartZ q p:=by
 rcases h with h|h
 ·exact .inr h
 ·exact .inl h
theorem divides_iff {F S:List (Int×Int)} (hp:S.Perm F) (hs:S.Pairwise (fun p q=>p.1≤q.1)) (hv:∀ p∈F,0≤p.1∧p.1≤p.2) (top:Int) (ht:0<top) :
  chainA S 0=some (top+1)↔topZ F=top∧F.Pairwise apartZ∧sumZ F=top+1:=by
 have hv':∀ p∈S,0≤p.1∧p.1≤p.2:=fun p h=>hv p (hp.mem_iff.1 h)
 have he:F.Pairwise apartZ↔S.Pairwise apartZ:=(hp.pairwise_iff apartZ_symm).symm
 rw[← topZ_perm hp,← sumZ_perm hp,he]
 constructor
 ·intro h
  have h1:=chain_ge h fun p h=>(hv' p h).2
  have hn:S≠[]:=by
   intro e;subst e;simp only[chainA,Option.some.injEq]at h;omega
  have h2:=chain_top h (fun p h=>(hv' p h).2) hn
  exact⟨by omega,chain_apart h fun p h=>(hv' p h).2,by omega⟩
 ·intro ⟨h1,h2,h3⟩
  exact chain_of hs h2 (fun p h=>⟨(hv' p h).2,(hv' p h).1,by have:=topZ_ge h;omega⟩) (by omega)
theorem apart_flatten {L:List (List (Int×Int))} (h:∀ s∈L,s.Pairwise fun p q=>p.2<q.1) :
  L.flatten.Pairwise apartZ↔L.Pairwise fun s t=>∀ p∈s,∀ q∈t,apartZ p q:=by
 rw[List.pairwise_flatten]
 constructor
 ·exact fun h=>h.2
 ·exact fun h2=>⟨fun s hs=>(h s hs).imp fun h=>.inl h,h2⟩
theorem chain_order:∀ {S:List (Int×Int)}{n e:Int},chainA S n=some e→(∀ p∈S,p.1≤p.2)→S.Pairwise fun p q=>p.2<q.1
 | [],_,_,_,_=>.nil
 | p::S,n,e,h,hv=>by
   rw[chainA]at h
   split at h
   ·refine .cons (fun q hq=>?_) (chain_order h fun q hq=>hv q (by simp[hq]))
    have:=(chain_ge h fun q hq=>hv q (by simp[hq])).2.2 q hq
    omega
   ·simp at h
theorem order_hi {S:List (Int×Int)} (h:S.Pairwise fun p q=>p.2<q.1) (hv:∀ p∈S,p.1≤p.2) {i k:Nat} (hik:i<k) (hk:k<S.length):S[i].2<S[k].1∧S[i].2<S[k].2:=by
 have h1:=List.pairwise_iff_getElem.1 h i k (by omega) hk hik
 have h2:=hv S[k] (List.getElem_mem hk)
 omega
theorem chain_has:∀ {S:List (Int×Int)}{n e:Int},chainA S n=some e→∀ x,n≤x→x<e→∃ p∈S,p.1≤x∧x≤p.2
 | [],n,e,h,x,h1,h2=>by simp only[chainA,Option.some.injEq]at h;omega
 | p::S,n,e,h,x,h1,h2=>by
   rw[chainA]at h
   split at h
   ·by_cases hx:x≤p.2
    ·exact⟨p,by simp,by omega,hx⟩
    ·obtain⟨q,hq,h3⟩:=chain_has h x (by omega) h2
     exact⟨q,by simp[hq],h3⟩
   ·simp at h
abbrev Cls:=List (List (Int×Int))
def headLo (s:List (Int×Int)):Int:=(s.head?.map (·.1)).getD 0
def badC (cl:Cls) (i:Nat):Bool:=
 match cl[i]? with
 | some s=>decide (refSpans s≠0)||s.isEmpty||(match i with
   | 0=>false
   | k+1=>match cl[k]? with
     | some t=>decide (headLo s≤headLo t)
     | none=>false)
 | none=>false
def ordC (cl:Cls):Bool:=!(List.range cl.length).any (badC cl)
theorem ordC_of {cl:Cls} (h:∀ k,k<cl.length→badC cl k=false):ordC cl=true:=by
 have:(List.range cl.length).any (badC cl)=false:=by
  rw[List.any_eq_false]
  intro k hk
  rw[h k (List.mem_range.1 hk)];simp
 simp[ordC,this]
theorem ordC_not {cl:Cls}{i:Nat} (hi:i<cl.length) (h:badC cl i=true):ordC cl=false:=by
 have:(List.range cl.length).any (badC cl)=true:=List.any_eq_true.2 ⟨i,List.mem_range.2 hi,h⟩
 simp[ordC,this]
theorem ordC_get {cl:Cls} (h:ordC cl=true) {i:Nat} (hi:i<cl.length):badC cl i=false:=by
 simp only[ordC,Bool.not_eq_true',List.any_eq_false,List.mem_range]at h
 have:=h i hi
 simpa using this
def endC (S:List (Int×Int)):Bool:=
 match chainA S 0 with
 | some e=>decide (e=256)||decide (e=1114112)
 | none=>false
def meetS (s t:List (Int×Int)):Bool:=s.any fun p=>t.any fun q=>decide (p.1≤q.2)&&decide (q.1≤p.2)
def badM (cl:Cls) (i:Nat):Bool:=(List.range i).any fun j=>meetS (cl[i]?.getD []) (cl[j]?.getD [])
def partedA (cl:Cls):Bool:=
 (decide (topZ cl.flatten=255)||decide (topZ cl.flatten=1114111))&&!(List.range cl.length).any (fun i=>badC cl i||badM cl i)&&decide (sumZ cl.flatten=topZ cl.flatten+1)
theorem refSpans_ok {l:List (Int×Int)} (h:refSpans l=0):(∀ i,(hi:i<l.length)→0≤l[i].1∧l[i].1≤l[i].2∧l[i].2≤1114111∧∀ k,i=k+1→2≤l[i].1-(l[k]?.getD (0,0)).2)∧l.length≤64:=by
 unfold refSpans at h
 split at h
 ·cases h
 ·rename_i h1
  refine⟨fun i hi=>?_,by split at h;cases h;omega⟩
  have h2:badAt l i=false:=by
   simp only[List.any_eq_true,List.mem_range,not_exists,not_and,Bool.not_eq_true]at h1
   exact h1 i hi
  unfold badAt at h2
  rw[List.getElem?_eq_getElem hi]at h2
  simp only[Bool.or_eq_false_iff,Bool.not_eq_false',decide_eq_true_eq]at h2
  refine⟨h2.1.1,h2.1.2.1,h2.1.2.2,fun k hk=>?_⟩
  subst hk
  have h3:=h2.2
  have hk2:k<l.length:=by omega
  simp only[List.getElem?_eq_getElem hk2,decide_eq_false_iff_not]at h3
  simp only[List.getElem?_eq_getElem hk2,Option.getD_some]
  omega
theorem refSpans_mem {l:List (Int×Int)} (h:refSpans l=0):∀ p∈l,0≤p.1∧p.1≤p.2∧p.2≤1114111:=fun p hp=>by
 obtain⟨i,hi,rfl⟩:=List.getElem_of_mem hp
 have:=(refSpans_ok h).1 i hi
 exact⟨this.1,this.2.1,this.2.2.1⟩
theorem refSpans_order {l:List (Int×Int)} (h:refSpans l=0):l.Pairwise fun p q=>p.2+1<q.1:=by
 have h1:=(refSpans_ok h).1
 rw[List.pairwise_iff_getElem]
 intro i j hi hj hij
 have key:∀ d,(hd:i+1+d<l.length)→l[i].2+1<l[i+1+d].1:=by
  intro d
  induction d with
  | zero=>
    intro hd
    have:=(h1 (i+1) hd).2.2.2 i rfl
    rw[List.getElem?_eq_getElem hi,Option.getD_some]at this
    simp only[Nat.add_zero];omega
  | succ d ih=>
    intro hd
    have a1:=ih (by omega)
    have a2:=(h1 (i+1+d) (by omega)).2.1
    have:=(h1 (i+1+(d+1)) hd).2.2.2 (i+1+d) rfl
    rw[List.getElem?_eq_getElem (by omega),Option.getD_some]at this
    omega
 have:=key (j-(i+1)) (by omega)
 simpa [show i+1+(j-(i+1))=j by omega] using this
theorem ordC_sets {cl:Cls} (h:ordC cl=true):∀ s∈cl,refSpans s=0∧s≠[]:=fun s hs=>by
 obtain⟨i,hi,rfl⟩:=List.getElem_of_mem hs
 have h1:=ordC_get h hi
 unfold badC at h1
 rw[List.getElem?_eq_getElem hi]at h1
 simp only[Bool.or_eq_false_iff,decide_eq_false_iff_not,Decidable.not_not]at h1
 exact⟨h1.1.1,fun e=>by rw[e]at h1;simp at h1⟩
theorem meetS_not {s t:List (Int×Int)}:meetS s t=false↔∀ p∈s,∀ q∈t,apartZ p q:=by
 unfold meetS apartZ
 simp only[List.any_eq_false,List.any_eq_true,not_exists,not_and,Bool.not_eq_true,Bool.and_eq_true,decide_eq_true_eq,Bool.and_eq_false_imp,decide_eq_false_iff_not]
 constructor
 ·intro h p hp q hq
  by_cases h1:p.1≤q.2
  ·have:=h p hp q hq h1;omega
  ·omega
 ·intro h p hp q hq h1
  have:=h p hp q hq
  omega
theorem badM_not {cl:Cls}:(∀ i,i<cl.length→badM cl i=false)↔cl.Pairwise fun s t=>∀ p∈s,∀ q∈t,apartZ p q:=by
 rw[List.pairwise_iff_getElem]
 constructor
 ·intro h i j hi hj hij p hp q hq
  have h1:=h j hj
  unfold badM at h1
  simp only[List.any_eq_false,List.mem_range]at h1
  have h2:=h1 i hij
  rw[List.getElem?_eq_getElem hj,List.getElem?_eq_getElem hi,Option.getD_some,Option.getD_some,Bool.not_eq_true,meetS_not]at h2
  exact apartZ_symm (h2 q hq p hp)
 ·intro h j hj
  unfold badM
  simp only[List.any_eq_false,List.mem_range]
  intro i hij
  rw[List.getElem?_eq_getElem hj,List.getElem?_eq_getElem (by omega),Option.getD_some,Option.getD_some,Bool.not_eq_true,meetS_not]
  exact fun q hq p hp=>apartZ_symm (h i j (by omega) hj hij p hp q hq)
theorem divides_parted {cl:Cls}{S:List (Int×Int)} (h:ordC cl=true) (hp:S.Perm cl.flatten) (hs:S.Pairwise fun p q=>p.1≤q.1):endC S=partedA cl:=by
 have hset:=ordC_sets h
 have hv:∀ p∈cl.flatten,0≤p.1∧p.1≤p.2:=fun p hp=>by
  obtain⟨s,hs,hps⟩:=List.mem_flatten.1 hp
  have:=refSpans_mem (hset s hs).1 p hps
  omega
 have hin:∀ s∈cl,s.Pairwise fun p q=>p.2<q.1:=fun s hs=>(refSpans_order (hset s hs).1).imp fun h=>by omega
 have key:=fun(top:Int) (ht:0<top)=>divides_iff hp hs hv top ht
 have k1:=key 255 (by omega)
 have k2:=key 1114111 (by omega)
 rw[apart_flatten hin,← badM_not]at k1 k2
 have hb:(!(List.range cl.length).any (fun i=>badC cl i||badM cl i))=decide (∀ i,i<cl.length→badM cl i=false):=by
  rw[Bool.eq_iff_iff,decide_eq_true_eq,Bool.not_eq_true',List.any_eq_false]
  constructor
  ·intro h2 i hi
   have:=h2 i (List.mem_range.2 hi)
   simp only[Bool.or_eq_true,not_or,Bool.not_eq_true]at this
   exact this.2
  ·intro h2 i hi
   simp only[Bool.or_eq_true,not_or,Bool.not_eq_true]
   exact⟨ordC_get h (List.mem_range.1 hi),h2 i (List.mem_range.1 hi)⟩
 unfold partedA
 rw[hb]
 unfold endC
 by_cases hm:∀ i,i<cl.length→badM cl i=false
 ·by_cases t1:topZ cl.flatten=255∧sumZ cl.flatten=256
  ·have:=k1.2 ⟨t1.1,hm,t1.2⟩
   rw[this];simp[t1,hm]
   exact hm
  ·by_cases t2:topZ cl.flatten=1114111∧sumZ cl.flatten=1114112
   ·have:=k2.2 ⟨t2.1,hm,t2.2⟩
    rw[this];simp[t2,hm]
    exact hm
   ·have r:((decide (topZ cl.flatten=255)||decide (topZ cl.flatten=1114111))&&decide (∀ i,i<cl.length→badM cl i=false)&&decide (sumZ cl.flatten=topZ cl.flatten+1))=false:=by
     rw[Bool.eq_false_iff]
     intro h3
     simp only[Bool.and_eq_true,Bool.or_eq_true,decide_eq_true_eq]at h3
     obtain⟨⟨h3|h3,_⟩,h4⟩:=h3
     ·exact t1 ⟨h3,by omega⟩
     ·exact t2 ⟨h3,by omega⟩
    rw[r]
    split
    ·rename_i e he
     simp only[Bool.or_eq_false_iff,decide_eq_false_iff_not]
     refine⟨fun e1=>?_,fun e1=>?_⟩
     ·subst e1;have:=k1.1 he;exact t1 ⟨this.1,this.2.2⟩
     ·subst e1;have:=k2.1 he;exact t2 ⟨this.1,this.2.2⟩
    ·rfl
 ·rw[decide_eq_false hm,Bool.and_false,Bool.false_and]
  split
  ·rename_i e he
   simp only[Bool.or_eq_false_iff,decide_eq_false_iff_not]
   refine⟨fun e1=>?_,fun e1=>?_⟩
   ·subst e1;exact hm (k1.1 he).2.1
   ·subst e1;exact hm (k2.1 he).2.1
  ·rfl
theorem parted_ord {cl:Cls} (h:ordC cl=false):partedA cl=false:=by
 have:(List.range cl.length).any (fun i=>badC cl i||badM cl i)=true:=by
  simp only[ordC,Bool.not_eq_false',List.any_eq_true]at h
  obtain⟨i,hi,h⟩:=h
  exact List.any_eq_true.2 ⟨i,hi,by simp[h]⟩
 simp[partedA,this]
section
attribute [local go_sem] evAppend retE_norm retE_ret bndO bnd evEq eqCells not_false_eq_true not_true_eq_false toList_some Array.size_empty List.length_append List.map_append tySzE List.head?_drop Nat.mul_one sameAt_zero sameAt_two sameAt_three sameAt_four sameAt_five room_ok
open Go.Proofs Go.RowKit Go.IntWalk
set_option maxRecDepth 100000
set_option maxHeartbeats 4000000
abbrev spanOf (p:Pl):Int×Int:=(p.1,p.2.1)
def dividesA (L:Cls):Bool:=ordC L&&endC ((sortP (placesL 0 L)).map spanOf)
def nxtP (S:List Pl):Nat→Int
 | 0=>0
 | k+1=>((S[k]?).map fun p=>p.2.1+1).getD 0
theorem chainA_app:∀(A B:List (Int×Int)) (n:Int),chainA (A++B) n=(chainA A n).bind fun m=>chainA B m
 | [],B,n=>rfl
 | p::A,B,n=>by
   rw[List.cons_append,chainA,chainA]
   split
   ·exact chainA_app A B _
   ·rfl
theorem chain_next {S:List Pl}{k:Nat}{p:Pl} (hp:S[k]?=some p) (h:chainA ((S.map spanOf).take k) 0=some (nxtP S k)) (e:p.1=nxtP S k):chainA ((S.map spanOf).take (k+1)) 0=some (nxtP S (k+1)):=by
 have hp2:(S.map spanOf)[k]?=some (spanOf p):=by simp[hp]
 rw[List.take_add_one,hp2,chainA_app,h]
 have e2:nxtP S (k+1)=p.2.1+1:=by simp[nxtP,hp]
 rw[e2]
 simp only[Option.toList_some,Option.bind_some,chainA]
 rw[if_pos e]
theorem chain_bad {S:List Pl}{k:Nat}{p:Pl} (hp:S[k]?=some p) (h:chainA ((S.map spanOf).take k) 0=some (nxtP S k)) (e:p.1≠nxtP S k):endC (S.map spanOf)=false:=by
 have hp2:(S.map spanOf)[k]?=some (spanOf p):=by simp[hp]
 have hk:=(List.getElem?_eq_some_iff.1 hp2).1
 have h2:chainA (S.map spanOf) 0=none:=by
  rw[← List.take_append_drop k (S.map spanOf),chainA_app,h]
  simp only[Option.bind_some]
  rw[List.drop_eq_getElem_cons hk,chainA]
  have:(S.map spanOf)[k]=spanOf p:=(List.getElem?_eq_some_iff.1 hp2).2
  rw[this,if_neg e]
 simp[endC,h2]
theorem divides_no {L:Cls} (h:ordC L=false):dividesA L=false:=by simp[dividesA,h]
theorem mem_places:∀ {L:Cls}{i:Nat}{p:Pl},p∈placesL i L→∃ s∈L,spanOf p∈s
 | [],_,_,h=>by simp[placesL]at h
 | s::L,i,p,h=>by
   rw[placesL,List.mem_append]at h
   rcases h with h|h
   ·obtain⟨q,hq,rfl⟩:=List.mem_map.1 h
    exact⟨s,by simp,hq⟩
   ·obtain⟨t,ht,h2⟩:=mem_places h
    exact⟨t,by simp[ht],h2⟩
theorem le_sum_mem:∀ {l:List Nat}{x:Nat},x∈l→x≤l.sum
 | y::l,x,h=>by
   rw[List.sum_cons]
   rcases List.mem_cons.1 h with h|h
   ·omega
   ·have:=le_sum_mem h;omega
theorem f67 (L:Cls) (hl:L.length≤1000000) (hs:(L.map List.length).sum≤1000000) (H:List MB) :
  call Tryz.prog pol1 67 [.sl false (L.map setAV9)] H=some (.bool (dividesA L),H):=by
 have hpl:=plain_cls L
 have h129:=f129 L hl hs
 have hsl:∀ s∈L,s.length≤1000000:=fun s hm=>by
  have:s.length≤(L.map List.length).sum:=le_sum_mem (List.mem_map.2 ⟨s,hm,rfl⟩)
  omega
 refine call_run Tryz.func67 rfl rfl rfl rfl rfl rfl (fun _=>rfl) (by simp[AV.plain,AV.plainL,hpl]) (by simp[AV.plain]) ?_ H
 simp +contextual (disch:=omega) only[Tryz.f67,dd67,go_sem,simprocAttr,mu67,↓wrap_up,↓wrap_down,↓wrap_pred,↓wrap_sub_nat]
 refine W_count (M:=(mskOf (pol1.mask 67) (pol1.gc 67) (pol1.acts 67) 0 2)) rfl L.length (fun i=>(⟨64,[(10,I i),(9,I L.length),(8,.sl false (L.map setAV9)),(0,.sl false (L.map setAV9))],[]⟩:St)) (fun i=>∀ k,k<i→badC L k=false) ?_ ?_ (fun k h=>by omega) _ rfl
 ·intro i hi hinv
  obtain⟨s,hsi⟩:∃ s,L[i]?=some s:=⟨_,List.getElem?_eq_getElem hi⟩
  have hsi':(L.map setAV9)[i]?=some (setAV9 s):=by simp[hsi]
  have h88:=f121 s (hsl s (List.mem_of_getElem? hsi))
  have ext:badC L i=false→∀ k,k<i+1→badC L k=false:=fun h k hk=>by
   rcases Nat.lt_or_ge k i with h1|h1
   ·exact hinv k h1
   ·obtain rfl:k=i:=by omega
    exact h
  by_cases hv:refSpans s=0
  ·cases s with
   | nil=>
     have hb:dividesA L=false:=divides_no (ordC_not hi (by simp[badC,hsi]))
     rw[hb]
     rw[hv]at h88
     simp +contextual (disch:=omega) only[Tryz.f67,dd67,go_sem,simprocAttr,mu67,↓wrap_up,↓wrap_down,↓wrap_pred,↓wrap_sub_nat,hsi',h88]
     exact fzEq rfl rfl
   | cons p s=>
     rw[hv]at h88
     have hp0:((p::s).map spanAV)[0]?=some (spanAV p):=rfl
     rcases i with _|k
     ·have hb:badC L 0=false:=by simp[badC,hsi,hv]
      simp +contextual (disch:=omega) only[Tryz.f67,dd67,go_sem,simprocAttr,mu67,↓wrap_up,↓wrap_down,↓wrap_pred,↓wrap_sub_nat,hsi',h88,hp0,spanAV]
      exact⟨by unfold dOk;kernel_rfl,ext hb,rfl⟩
     ·obtain⟨t,ht⟩:∃ t,L[k]?=some t:=⟨_,List.getElem?_eq_getElem (by omega)⟩
      have ht':(L.map setAV9)[k]?=some (setAV9 t):=by simp[ht]
      have hbk:=hinv k (by omega)
      cases t with
      | nil=>simp[badC,ht]at hbk
      | cons q t=>
        have hq0:((q::t).map spanAV)[0]?=some (spanAV q):=rfl
        have hb:badC L (k+1)=decide (p.1≤q.1):=by
         simp only[badC,hsi,ht,hv,headLo]
         simp<;>rfl
        simp +contextual (disch:=omega) only[Tryz.f67,dd67,go_sem,simprocAttr,mu67,↓wrap_up,↓wrap_down,↓wrap_pred,↓wrap_sub_nat,hsi',ht',h88,hp0,hq0,spanAV]
        refine⟨by unfold dOk;kernel_rfl,fun h=>fzEq rfl ?_,fun h=>⟨ext ?_,rfl⟩⟩
        ·rw[divides_no (ordC_not hi (by rw[hb,decide_eq_true h]))]
        ·rw[hb,decide_eq_false h]
  ·have hb:dividesA L=false:=divides_no (ordC_not hi (by simp[badC,hsi,hv]))
   rw[hb]
   simp +contextual (disch:=omega) only[Tryz.f67,dd67,go_sem,simprocAttr,mu67,↓wrap_up,↓wrap_down,↓wrap_pred,↓wrap_sub_nat,hsi',h88,hv]
   exact fzEq rfl rfl
 ·intro hinv
  have ho:=ordC_of hinv
  have hda:dividesA L=endC ((sortP (placesL 0 L)).map spanOf):=by simp[dividesA,ho]
  have hset:=ordC_sets ho
  have hS:∀ p∈sortP (placesL 0 L),0≤p.1∧p.1≤p.2.1∧p.2.1≤1114111:=fun p hp=>by
   obtain⟨s,hs1,hs2⟩:=mem_places ((sortP_perm _).mem_iff.1 hp)
   exact refSpans_mem (hset s hs1).1 _ hs2
  rw[hda]
  have hlen:(sortP (placesL 0 L)).length≤1000000:=by rw[sortP_length,placesL_len];omega
  generalize sortP (placesL 0 L)=S at *
  simp +contextual (disch:=omega) only[Tryz.f67,dd67,go_sem,simprocAttr,mu67,↓wrap_up,↓wrap_down,↓wrap_pred,↓wrap_sub_nat,h129]
  refine W_count (M:=(mskOf (pol1.mask 67) (pol1.gc 67) (pol1.acts 67) 0 11)) rfl S.length (fun k=>(⟨64,[(44,I k),(43,I S.length),(42,.sl false (S.map el3)),(5,I (nxtP S k))],[]⟩:St)) (fun k=>chainA ((S.map spanOf).take k) 0=some (nxtP S k)) ?_ ?_ rfl _ (by first|rfl|(refine prep_cut rfl (by rfl) (by rfl) (by rfl) ?_ ?_<;>simp[AV.underL,AV.under,MB.under,underL_plain,under_plain,plain_ints,plain_span,plain_ins,plain_prg,-List.map_take,plain_el3]))
  ·intro k hk hc
   obtain⟨p,hp⟩:∃ p,S[k]?=some p:=⟨_,List.getElem?_eq_getElem hk⟩
   have hp':(S.map el3)[k]?=some (.agg [I p.1,I p.2.1,I p.2.2]):=by simp[hp,el3]
   have hb:=hS p (List.mem_of_getElem? hp)
   have hw:IntKind.i64.wrap (p.2.1+1)=p.2.1+1:=by rw[i64_in];omega
   have en:nxtP S (k+1)=p.2.1+1:=by simp[nxtP,hp]
   by_cases e:p.1=nxtP S k
   ·have hn:=chain_next hp hc e
    rw[en]at hn ⊢
    simp +contextual (disch:=omega) only[Tryz.f67,dd67,go_sem,simprocAttr,mu67,↓wrap_up,↓wrap_down,↓wrap_pred,↓wrap_sub_nat,hp',hw,e]
    exact⟨hn,(by first|rfl|(refine prep_cut rfl (by rfl) (by rfl) (by rfl) ?_ ?_<;>simp[AV.underL,AV.under,MB.under,underL_plain,under_plain,plain_ints,plain_span,plain_ins,plain_prg,-List.map_take,plain_el3]))⟩
   ·rw[chain_bad hp hc e]
    simp +contextual (disch:=omega) only[Tryz.f67,dd67,go_sem,simprocAttr,mu67,↓wrap_up,↓wrap_down,↓wrap_pred,↓wrap_sub_nat,hp',hw,e]
    exact fzEq rfl rfl
  ·intro hc
   have he:endC (S.map spanOf)=(decide (nxtP S S.length=256)||decide (nxtP S S.length=1114112)):=by
    have:(S.map spanOf).take S.length=S.map spanOf:=List.take_of_length_le (by simp)
    rw[this]at hc
    simp[endC,hc]
   rw[he]
   by_cases e:nxtP S S.length=256
   ·simp +contextual (disch:=omega) only[Tryz.f67,dd67,go_sem,simprocAttr,mu67,↓wrap_up,↓wrap_down,↓wrap_pred,↓wrap_sub_nat,e]
    exact fzEq rfl rfl
   ·simp +contextual (disch:=omega) only[Tryz.f67,dd67,go_sem,simprocAttr,mu67,↓wrap_up,↓wrap_down,↓wrap_pred,↓wrap_sub_nat,e]
    exact fzEq rfl (by rw[Bool.false_or];rfl)
end
section
attribute [local go_sem] evAppend retE_norm retE_ret bndO bnd evEq eqCells not_false_eq_true not_true_eq_false toList_some Array.size_empty List.length_append List.map_append tySzE List.head?_drop Nat.mul_one sameAt_zero sameAt_two sameAt_three sameAt_four sameAt_five room_ok
open Go.Proofs Go.RowKit Go.IntWalk
set_option maxRecDepth 100000
set_option maxHeartbeats 4000000
structure AutoL where
 cl:Cls
 nx:List (List Int)
 ac:List Bool
abbrev rowAV (r:List Int):AV:=.sl false (r.map I)
abbrev autoAV (a:AutoL):AV:=.agg [.sl false (a.cl.map setAV9),.sl false (a.nx.map rowAV),.sl false (a.ac.map AV.bool)]
theorem plain_rows (L:List (List Int)):AV.plainL (L.map rowAV)=true:=by
 induction L with
 | nil=>rfl
 | cons a l ih=>simp[AV.plainL,AV.plain,plain_ints,ih]
structure AutoB (a:AutoL):Prop where
 cl:a.cl.length≤1000000
 sum:(a.cl.map List.length).sum≤1000000
 nx:a.nx.length≤1000000
 ac:a.ac.length≤1000000
 row:∀ r∈a.nx,r.length≤1000000
def okSt (n:Nat) (t:Int):Bool:=decide (0≤t)&&decide (t<n)
def okRow (n m:Nat) (r:List Int):Bool:=decide (r.length=m)&&r.all (okSt n)
def validW (d:Bool) (a:AutoL):Int:=
 if 1024<a.cl.length∨1024<a.nx.length∨1024<a.ac.length then 4
 else if a.nx.length=0∨a.ac.length≠a.nx.length∨d=false then 1
 else if a.nx.all (okRow a.nx.length a.cl.length) then 0 else 1
theorem evMax_nat (x y:Nat):evMax (.int .i64 x) (.int .i64 y)=some (.int .i64 ((max x y:Nat):Int)):=by
 unfold evMax
 simp only[Option.some.injEq,AV.int.injEq,true_and]
 split<;>omega
theorem plain_bools9 (l:List Bool):AV.plainL (l.map AV.bool)=true:=by
 induction l with
 | nil=>rfl
 | cons a l ih=>simp[AV.plainL,AV.plain,ih]
theorem plain_auto (a:AutoL):AV.plain (autoAV a)=true:=by simp[AV.plain,AV.plainL,plain_cls,plain_rows,plain_bools9]
theorem all_bad {α:Type}{p:α→Bool}{l:List α}{i:Nat}{x:α} (h:l[i]?=some x) (hp:p x=false):l.all p=false:=by
 rw[List.all_eq_false]
 exact⟨x,List.mem_of_getElem? h,by simp[hp]⟩
theorem all_of {α:Type}{p:α→Bool}{l:List α} (h:∀ k,k<l.length→∀ x,l[k]?=some x→p x=true):l.all p=true:=by
 rw[List.all_eq_true]
 intro x hx
 obtain⟨i,hi,e⟩:=List.getElem_of_mem hx
 exact h i hi x (by rw[List.getElem?_eq_getElem hi,e])
theorem f18 (a:AutoL) (hb:AutoB a) (H:List MB):call Tryz.prog pol1 18 [autoAV a] H=some (I (validW (dividesA a.cl) a),H):=by
 have hpl:=plain_auto a
 have h67:=f67 a.cl hb.cl hb.sum
 have b1:=hb.cl
 have b2:=hb.nx
 have b3:=hb.ac
 have hrow:=hb.row
 obtain⟨cl,nx,ac⟩:=a
 simp only at h67 b1 b2 b3 hrow
 unfold validW
 simp only
 generalize dividesA cl=d at *
 refine call_run Tryz.func18 rfl rfl rfl rfl rfl rfl (fun _=>rfl) (by simp only[AV.plainL,hpl];rfl) (by simp[AV.plain]) ?_ H
 by_cases c1:1024<cl.length∨1024<nx.length∨1024<ac.length
 ·rw[if_pos c1]
  simp +contextual (disch:=omega) only[Tryz.f18,dd18,go_sem,simprocAttr,mu18,↓wrap_up,↓wrap_down,↓wrap_pred,↓wrap_sub_nat,evMax_nat]
  exact⟨fun _=>fzEq rfl rfl,fun _=>fzEq rfl rfl⟩
 ·rw[if_neg c1]
  by_cases c2:nx.length=0∨ac.length≠nx.length∨d=false
  ·rw[if_pos c2]
   cases d with
   | false=>
     simp +contextual (disch:=omega) only[Tryz.f18,dd18,go_sem,simprocAttr,mu18,↓wrap_up,↓wrap_down,↓wrap_pred,↓wrap_sub_nat,h67,evMax_nat]
     exact⟨fun _=>fzEq rfl rfl,fun _=>⟨fun _=>fzEq rfl rfl,fun _=>fzEq rfl rfl⟩⟩
   | true=>
     have c3:nx.length=0∨ac.length≠nx.length:=by simpa using c2
     by_cases c4:nx.length=0
     ·have c5:(nx.length:Int)=0:=by omega
      simp +contextual (disch:=omega) only[Tryz.f18,dd18,go_sem,simprocAttr,mu18,↓wrap_up,↓wrap_down,↓wrap_pred,↓wrap_sub_nat,h67,evMax_nat]
      exact fzEq rfl rfl
     ·have c6:¬ (ac.length:Int)=(nx.length:Int):=by omega
      simp +contextual (disch:=omega) only[Tryz.f18,dd18,go_sem,simprocAttr,mu18,↓wrap_up,↓wrap_down,↓wrap_pred,↓wrap_sub_nat,h67,evMax_nat,c6]
      exact fzEq rfl rfl
  ·rw[if_neg c2]
   have hd:d=true:=by cases d<;>simp_all
   subst hd
   have c4:ac.length=nx.length∧nx.length≠0:=by
    constructor
    ·by_cases e:ac.length=nx.length
     ·exact e
     ·exact absurd (.inr (.inl e)) c2
    ·exact fun e=>c2 (.inl e)
   simp +contextual (disch:=omega) only[Tryz.f18,dd18,go_sem,simprocAttr,mu18,↓wrap_up,↓wrap_down,↓wrap_pred,↓wrap_sub_nat,h67,evMax_nat]
   refine W_count (M:=(mskOf (pol1.mask 18) (pol1.gc 18) (pol1.acts 18) 0 7)) rfl nx.length (fun i=>(⟨66,[(41,I i),(40,I nx.length),(39,.sl false (nx.map rowAV)),(3,I nx.length),(1,.rf 0 1 0 0)],[.row 3 [autoAV ⟨cl,nx,ac⟩] 0]⟩:St)) (fun i=>∀ k,k<i→∀ x,nx[k]?=some x→okRow nx.length cl.length x=true) ?_ ?_ (fun k h=>by omega) _ rfl
   ·intro i hi hinv
    obtain⟨r,hr⟩:∃ r,nx[i]?=some r:=⟨_,List.getElem?_eq_getElem hi⟩
    have hr':(nx.map rowAV)[i]?=some (rowAV r):=by simp[hr]
    have hrl:=hrow r (List.mem_of_getElem? hr)
    have bad:okRow nx.length cl.length r=false→(if nx.all (okRow nx.length cl.length)=true then(0:Int) else 1)=1:=fun h=>by
     rw[all_bad hr h];rfl
    by_cases c5:r.length=cl.length
    ·have c6:(r.length:Int)=(cl.length:Int):=by omega
     simp +contextual (disch:=omega) only[Tryz.f18,dd18,go_sem,simprocAttr,mu18,↓wrap_up,↓wrap_down,↓wrap_pred,↓wrap_sub_nat,hr',c6]
     refine W_count (M:=(mskOf (pol1.mask 18) (pol1.gc 18) (pol1.acts 18) 0 12)) rfl r.length (fun k=>(⟨66,[(53,I k),(52,I r.length),(51,rowAV r),(41,I i),(40,I nx.length),(39,.sl false (nx.map rowAV)),(3,I nx.length),(1,.rf 0 1 0 0)],[.row 3 [autoAV ⟨cl,nx,ac⟩] 0]⟩:St)) (fun k=>∀ j,j<k→∀ x,r[j]?=some x→okSt nx.length x=true) ?_ ?_ (fun k h=>by omega) _ (by simp only[c6];rfl)
     ·intro k hk hk2
      obtain⟨t,ht⟩:∃ t,r[k]?=some t:=⟨_,List.getElem?_eq_getElem hk⟩
      have ht':(r.map I)[k]?=some (I t):=by simp[ht]
      have badt:okSt nx.length t=false→(if nx.all (okRow nx.length cl.length)=true then(0:Int) else 1)=1:=fun h=>bad (by simp[okRow,all_bad ht h])
      by_cases e1:t<0
      ·rw[badt (by simp[okSt];omega)]
       simp +contextual (disch:=omega) only[Tryz.f18,dd18,go_sem,simprocAttr,mu18,↓wrap_up,↓wrap_down,↓wrap_pred,↓wrap_sub_nat,ht',e1]
       exact fzEq rfl rfl
      ·by_cases e2:t<(nx.length:Int)
       ·simp +contextual (disch:=omega) only[Tryz.f18,dd18,go_sem,simprocAttr,mu18,↓wrap_up,↓wrap_down,↓wrap_pred,↓wrap_sub_nat,ht',e1,e2]
        refine⟨fun j hj x hx=>?_,rfl⟩
        rcases Nat.lt_or_ge j k with h1|h1
        ·exact hk2 j h1 x hx
        ·obtain rfl:j=k:=by omega
         rw[ht]at hx;cases hx
         simp[okSt];omega
       ·rw[badt (by simp[okSt];omega)]
        simp +contextual (disch:=omega) only[Tryz.f18,dd18,go_sem,simprocAttr,mu18,↓wrap_up,↓wrap_down,↓wrap_pred,↓wrap_sub_nat,ht',e1,e2]
        exact fzEq rfl rfl
     ·intro hk2
      have ok1:okRow nx.length cl.length r=true:=by simp only[okRow,c5,all_of hk2];rfl
      simp +contextual (disch:=omega) only[Tryz.f18,dd18,go_sem,simprocAttr,mu18,↓wrap_up,↓wrap_down,↓wrap_pred,↓wrap_sub_nat]
      refine⟨fun j hj x hx=>?_,rfl⟩
      rcases Nat.lt_or_ge j i with h1|h1
      ·exact hinv j h1 x hx
      ·obtain rfl:j=i:=by omega
       rw[hr]at hx;cases hx
       exact ok1
    ·have c6:¬ (r.length:Int)=(cl.length:Int):=by omega
     rw[bad (by simp[okRow,c5])]
     simp +contextual (disch:=omega) only[Tryz.f18,dd18,go_sem,simprocAttr,mu18,↓wrap_up,↓wrap_down,↓wrap_pred,↓wrap_sub_nat,hr',c6]
     exact fzEq rfl rfl
   ·intro hinv
    have:(if nx.all (okRow nx.length cl.length)=true then(0:Int) else 1)=0:=by
     rw[all_of hinv];rfl
    rw[this]
    simp +contextual (disch:=omega) only[Tryz.f18,dd18,go_sem,simprocAttr,mu18,↓wrap_up,↓wrap_down,↓wrap_pred,↓wrap_sub_nat]
    exact fzEq rfl rfl
end
section
attribute [local go_sem] retE_norm retE_ret bndO bnd evEq eqCells not_false_eq_true not_true_eq_false toList_some Array.size_empty List.length_append tySzE List.head?_drop Nat.mul_one sameAt_zero sameAt_two sameAt_three sameAt_four sameAt_five room_ok
open Go.Proofs Go.RowKit Go.IntWalk
set_option maxRecDepth 100000
set_option maxHeartbeats 4000000
theorem app_i {H:List MB}{i n z:Nat}{rs:List Int}{x:Int}{t:Bool} (hi:getRow H i=some (1,rs.map I,z)) (hz:z≤n) (hn:rs.length=n) (hr:n+1≤4000000000) :
  evAppend Tryz.prog H 22 22 (.ms i 1 n 0 n) (.sl t [I x])=some (.ms i 1 (n+1) 0 (n+1),H.set i (.row 1 ((rs++[x]).map I) z)):=by
 have hs:srcElems Tryz.prog H 3 (.sl t [I x])=some [I x]:=rfl
 rw[evAppend_end (e:=3) (by kernel_rfl) (by kernel_rfl) (k:=1) (by kernel_rfl) (by_:=8) (by kernel_rfl) (ze:=I 0) (by kernel_rfl) rfl (by omega) hs (by simp[AV.cells,AV.ok]) hi (by rw[List.length_map];exact hn) hz (room_ok (by simp;omega) (by omega))]
 rw[List.map_append];rfl
theorem app_b {H:List MB}{i n z:Nat}{rs:List Bool}{x:Bool}{t:Bool} (hi:getRow H i=some (1,rs.map AV.bool,z)) (hz:z≤n) (hn:rs.length=n) (hr:n+1≤4000000000) :
  evAppend Tryz.prog H 40 40 (.ms i 1 n 0 n) (.sl t [.bool x])=some (.ms i 1 (n+1) 0 (n+1),H.set i (.row 1 ((rs++[x]).map AV.bool) z)):=by
 have hs:srcElems Tryz.prog H 4 (.sl t [.bool x])=some [.bool x]:=rfl
 rw[evAppend_end (e:=4) (by kernel_rfl) (by kernel_rfl) (k:=1) (by kernel_rfl) (by_:=1) (by kernel_rfl) (ze:=.bool false) (by kernel_rfl) rfl (by omega) hs (by simp[AV.cells,AV.ok]) hi (by rw[List.length_map];exact hn) hz (room_ok (by simp;omega) (by omega))]
 rw[List.map_append];rfl
theorem app_s {H:List MB}{i n z:Nat}{rs:List AV}{x:AV}{t:Bool} (hi:getRow H i=some (1,rs,z)) (hz:z≤n) (hn:rs.length=n) (hr:n+1≤4000000000) (hx:x.cells=[x]) (ho:x.ok=true) :
  evAppend Tryz.prog H 39 39 (.ms i 1 n 0 n) (.sl t [x])=some (.ms i 1 (n+1) 0 (n+1),H.set i (.row 1 (rs++[x]) z)):=by
 have hs:srcElems Tryz.prog H 22 (.sl t [x])=some [x]:=rfl
 rw[evAppend_end (e:=22) (by kernel_rfl) (by kernel_rfl) (k:=1) (by kernel_rfl) (by_:=24) (by kernel_rfl) (ze:=.sl true []) (by kernel_rfl) rfl (by omega) hs (by simp[hx,ho]) hi hn hz (room_ok (by simp;omega) (by omega))]
 rfl
theorem fzL_snoc {jump:List AV→List MB→Option (List AV×List MB)}{x y:AV}{H H':List MB} (hx:fzA jump x H=some (y,H')):∀(R:List AV),AV.plainL R=true→fzL jump (R++[x]) H=some (R++[y],H')
 | [],_=>by simp only[List.nil_append,fzL,hx]
 | a::R,h=>by
   simp only[AV.plainL,Bool.and_eq_true]at h
   simp only[List.cons_append,fzL,fzA_plain jump a H h.1,fzL_snoc hx R h.2]
theorem fz_agg3 {a b c a' b' c':AV}{H H1 H2 H3:List MB} (h1:fz a H=some (a',H1)) (h2:fz b H1=some (b',H2)) (h3:fz c H2=some (c',H3)):fz (.agg [a,b,c]) H=some (.agg [a',b',c'],H3):=by
 unfold fz at *
 simp only[fzA,fzL,h1,h2,h3]
def someCls (k top:Int):Cls:=if k=0 then [[(0,96),(99,top)],[(97,97)],[(98,98)]] else [[(0,96),(99+k,top)],[(97,97)],[(98,98)],[(99,98+k)]]
def someN (l:List Int):Nat:=(1+pickI l 1 8).toNat
def someRow (l:List Int) (n:Nat) (m i:Nat):List Int:=(List.range m).map fun(c:Nat)=>pickI l (2+5*(i:Int)+(c:Int)) n
def someAc (l:List Int) (i:Nat):Bool:=pickI l (6+5*(i:Int)) 3==0
def someA (l:List Int) (top:Int):AutoL:=
 ⟨someCls (pickI l 0 3) top,(List.range (someN l)).map fun i=>someRow l (someN l) (someCls (pickI l 0 3) top).length i,(List.range (someN l)).map fun i=>someAc l i⟩
def splitArg (k:Int):AV:=.sl true [.sl true [.agg [I 97,I 98]],.sl true [.agg [I 98,.int .i64 (98+k)]]]
theorem s62 (k top:Int) (hk:k=0∨k=1∨k=2) (ht:top=255∨top=1114111) (H:List MB) :
  call Tryz.prog pol1 62 [splitArg k,.int .i64 top] H=some (.tup [.sl false ((someCls k top).map setAV9),I 0],H):=by
 rcases hk with rfl|rfl|rfl<;>rcases ht with rfl|rfl
 ·exact call_of_evF (n:=60) 24 62 _ _ _ (by kernel_rfl)
 ·exact call_of_evF (n:=60) 24 62 _ _ _ (by kernel_rfl)
 ·exact call_of_evF (n:=60) 24 62 _ _ _ (by kernel_rfl)
 ·exact call_of_evF (n:=60) 24 62 _ _ _ (by kernel_rfl)
 ·exact call_of_evF (n:=60) 24 62 _ _ _ (by kernel_rfl)
 ·exact call_of_evF (n:=60) 24 62 _ _ _ (by kernel_rfl)
theorem f23 (a:AutoL) (H:List MB):call Tryz.prog pol1 23 [autoAV a] H=some (autoAV a,H):=by
 have hpl:=plain_auto a
 obtain⟨cl,nx,ac⟩:=a
 refine call_run Tryz.func23 rfl rfl rfl rfl rfl rfl (fun _=>rfl) (by simp only[AV.plainL,hpl];rfl) hpl ?_ H
 simp +contextual (disch:=omega) only[Tryz.f23,dd23,go_sem,simprocAttr,evAppend,List.map_append,mu23,↓wrap_up,↓wrap_down,↓wrap_pred,↓wrap_sub_nat]
 exact fzEq hpl rfl
theorem f20 (l:List Int) (hl:∀ x∈l,In64 x) (r:Bool) (H:List MB):call Tryz.prog pol1 20 [.sl false (l.map I),.bool r] H=some (autoAV (someA l (if r then 1114111 else 255)),H):=by
 have hp3:=f57 l 0 3 hl (by omega)
 have hp8:=f57 l 1 8 hl (by omega)
 have b3:=pick_lt (l:=l) (i:=0) (m:=3) (by omega)
 have b8:=pick_lt (l:=l) (i:=1) (m:=8) (by omega)
 have ha:=fun(i:Nat)=>f57 l (6+5*(i:Int)) 3 hl (by omega)
 have hs:=s62 (pickI l 0 3) (if r then 1114111 else 255) (by omega) (by cases r<;>simp)
 have hm4:(someCls (pickI l 0 3) (if r then 1114111 else 255)).length≤4:=by unfold someCls;split<;>simp
 have hpa:=plain_auto (someA l (if r then 1114111 else 255))
 have hpi:=plain_ints l
 unfold someA at hpa ⊢
 have hpc:=plain_cls (someCls (pickI l 0 3) (if r then 1114111 else 255))
 have hN:((someN l:Nat):Int)=1+pickI l 1 8:=by unfold someN;omega
 have hN8:someN l≤8:=by omega
 have hn0:((someN l:Nat):Int)≠0:=by omega
 have hr:=fun(i c:Nat)=>f57 l (2+5*(i:Int)+(c:Int)) (someN l) hl hn0
 unfold splitArg at hs
 have w1:IntKind.i64.wrap (1+pickI l 1 8)=(someN l:Int):=by rw[i64_in]<;>omega
 have w2:IntKind.i64.wrap (98+pickI l 0 3)=98+pickI l 0 3:=by rw[i64_in];omega
 generalize pickI l 0 3=k3 at *
 refine call_run Tryz.func20 rfl rfl rfl rfl rfl rfl (fun _=>rfl) (by simp[AV.plain,AV.plainL,hpi]) hpa ?_ H
 generalize hC:someCls k3 (if r then 1114111 else 255)=C at *
 generalize hnn:someN l=n at *
 cases r
 all_goals
  simp only[Bool.false_eq_true,if_false,if_true]at hs
  simp +contextual (disch:=omega) only[Tryz.f20,dd20,go_sem,simprocAttr,List.map_append,mu20,↓wrap_up,↓wrap_down,↓wrap_pred,↓wrap_sub_nat,hp3,hp8,hs,w1,w2]
  refine W_count (M:=(mskOf (pol1.mask 20) (pol1.gc 20) (pol1.acts 20) 0 8)) rfl n (fun i=>(⟨72,[(10,I i),(9,I n),(8,.rf 1 1 0 0),(6,.sl false (C.map setAV9)),(4,.rf 0 1 0 0),(0,.sl false (l.map I))],[.row 3 [.agg [.sl true [],.sl true [],.sl true []]] 0,.row 3 [.agg [.sl false (C.map setAV9),.ms 2 1 i 0 i,.ms 3 1 i 0 i]] 0,.row 1 ((List.range i).map fun i=>rowAV (someRow l n C.length i)) 0,.row 1 (((List.range i).map fun i=>someAc l i).map AV.bool) 0]⟩:St)) (fun i=>True) ?_ ?_ trivial _ ?_
  ·intro i hi _
   have hR1:AV.plainL ((List.range i).map (fun i=>rowAV (someRow l n C.length i)))=true:=by
    rw[plainL_iff]
    intro x hx
    obtain⟨j,_,rfl⟩:=List.mem_map.1 hx
    simp[AV.plain,plain_ints]
   have hR2:=plain_bools9 ((List.range i).map fun i=>someAc l i)
   have hrow0:∀ c,(someRow l n c i).length=c:=fun c=>by simp[someRow]
   simp +contextual (disch:=omega) only[Tryz.f20,dd20,go_sem,simprocAttr,List.map_append,mu20,↓wrap_up,↓wrap_down,↓wrap_pred,↓wrap_sub_nat]
   refine W_count (M:=(mskOf (pol1.mask 20) (pol1.gc 20) (pol1.acts 20) 0 12)) rfl C.length (fun c=>(⟨72,[(12,I c),(11,.ms 4 1 c 0 c),(10,I i),(9,I n),(8,.rf 1 1 0 0),(6,.sl false (C.map setAV9)),(4,.rf 0 1 0 0),(0,.sl false (l.map I))],[.row 3 [.agg [.sl true [],.sl true [],.sl true []]] 0,.row 3 [.agg [.sl false (C.map setAV9),.ms 2 1 i 0 i,.ms 3 1 i 0 i]] 0,.row 1 ((List.range i).map fun i=>rowAV (someRow l n C.length i)) 0,.row 1 (((List.range i).map fun i=>someAc l i).map AV.bool) 0,.row 1 ((someRow l n c i).map I) 0]⟩:St)) (fun i=>True) ?_ ?_ trivial _ ?_
   ·intro c hc _
    have hs1:someRow l n (c+1) i=someRow l n c i++[pickI l (2+5*(i:Int)+(c:Int)) n]:=by simp[someRow,List.range_succ]
    have hrc:=hr i c
    generalize pickI l (2+5*(i:Int)+(c:Int)) n=z at *
    have v1:IntKind.i64.wrap (5*(i:Int))=5*(i:Int):=by rw[i64_in]<;>omega
    have v2:IntKind.i64.wrap (2+5*(i:Int))=2+5*(i:Int):=by rw[i64_in]<;>omega
    have v3:IntKind.i64.wrap (2+5*(i:Int)+(c:Int))=2+5*(i:Int)+(c:Int):=by rw[i64_in]<;>omega
    rw[hs1]
    generalize (List.range i).map (fun i=>rowAV (someRow l n C.length i))=R1 at *
    generalize ((List.range i).map fun i=>someAc l i).map AV.bool=R2 at *
    have hl1:=hrow0 c
    generalize someRow l n c i=rw1 at *
    have a1:=fun(b0 b1 b2 b3:MB) (t:Bool)=>app_i (H:=[b0,b1,b2,b3,.row 1 (rw1.map I) 0]) (i:=4) (n:=c) (x:=z) (t:=t) rfl (Nat.zero_le _) hl1 (by omega)
    simp only[set_4]at a1
    simp +contextual (disch:=omega) only[Tryz.f20,dd20,go_sem,simprocAttr,mu20,↓wrap_up,↓wrap_down,↓wrap_pred,↓wrap_sub_nat,v1,v2,v3,hrc,a1]
    generalize rw1++[z]=rw2
    exact(by first|rfl|(refine prep_cut rfl (by rfl) (by rfl) (by rfl) ?_ ?_<;>simp[AV.underL,AV.under,MB.under,underL_plain,under_plain,plain_ints,plain_span,plain_ins,plain_prg,-List.map_take,plain_ints,plain_cls,hR1,hR2]))
   ·intro _
    have hl1:=hrow0 C.length
    have hs2:(List.range (i+1)).map (fun i=>rowAV (someRow l n C.length i))=(List.range i).map (fun i=>rowAV (someRow l n C.length i))++[rowAV (someRow l n C.length i)]:=by simp[List.range_succ]
    have hs3:(List.range (i+1)).map (fun i=>someAc l i)=(List.range i).map (fun i=>someAc l i)++[someAc l i]:=by simp[List.range_succ]
    have hl2:((List.range i).map (fun i=>rowAV (someRow l n C.length i))).length=i:=by simp
    have hl3:((List.range i).map (fun i=>someAc l i)).length=i:=by simp
    have hac:=ha i
    have hac2:someAc l i=(pickI l (6+5*(i:Int)) 3==0):=rfl
    rw[hs2,hs3,hac2]
    generalize pickI l (6+5*(i:Int)) 3=z at *
    generalize someRow l n C.length i=rw1 at *
    generalize (List.range i).map (fun i=>rowAV (someRow l n C.length i))=R1 at *
    generalize (List.range i).map (fun i=>someAc l i)=R2 at *
    have v1:IntKind.i64.wrap (5*(i:Int))=5*(i:Int):=by rw[i64_in]<;>omega
    have v2:IntKind.i64.wrap (6+5*(i:Int))=6+5*(i:Int):=by rw[i64_in]<;>omega
    have a1:=fun(b0 b1 b3 b4:MB) (t:Bool)=>app_s (H:=[b0,b1,.row 1 R1 0,b3,b4]) (i:=2) (n:=i) (x:=.ms 4 1 C.length 0 C.length) (t:=t) rfl (Nat.zero_le _) hl2 (by omega) rfl rfl
    simp only[set_2]at a1
    have hz:fzs (R1++[.ms 4 1 C.length 0 C.length]) [.row 3 [.agg [.sl true [],.sl true [],.sl true []]] 0,.row 3 [.agg [.sl false (C.map setAV9),.ms 2 1 (i+1) 0 (i+1),.ms 3 1 i 0 i]] 0,.row 1 (R1++[.ms 4 1 C.length 0 C.length]) 0,.row 1 (R2.map AV.bool) 0,.row 1 (rw1.map I) 0]=some (R1++[rowAV rw1],[.row 3 [.agg [.sl true [],.sl true [],.sl true []]] 0,.row 3 [.agg [.sl false (C.map setAV9),.ms 2 1 (i+1) 0 (i+1),.ms 3 1 i 0 i]] 0,.row 1 (R1++[.ms 4 1 C.length 0 C.length]) 0,.row 1 (R2.map AV.bool) 0,.row 1 (rw1.map I) C.length]):=by
     refine fzL_snoc ?_ R1 hR1
     have:=fz_row (id:=4) (k:=1) (z:=0) (tot:=C.length) (H:=[.row 3 [.agg [.sl true [],.sl true [],.sl true []]] 0,.row 3 [.agg [.sl false (C.map setAV9),.ms 2 1 (i+1) 0 (i+1),.ms 3 1 i 0 i]] 0,.row 1 (R1++[.ms 4 1 C.length 0 C.length]) 0,.row 1 (R2.map AV.bool) 0,.row 1 (rw1.map I) 0]) rfl (by simp[hl1]) (plain_ints rw1)
     unfold fz at this
     rw[this]
     simp[mark,getRow]
    have hbq:=AV.beqL_refl (R1++[.ms 4 1 C.length 0 C.length])
    have a2:=fun(b0 b1 b2 b4:MB) (t:Bool)=>app_b (H:=[b0,b1,b2,.row 1 (R2.map AV.bool) 0,b4]) (i:=3) (n:=i) (x:=(z==0)) (t:=t) rfl (Nat.zero_le _) hl3 (by omega)
    simp only[set_3]at a2
    simp +contextual (disch:=omega) only[Tryz.f20,dd20,go_sem,simprocAttr,mu20,↓wrap_up,↓wrap_down,↓wrap_pred,↓wrap_sub_nat,a1,hz,hbq,hac,v1,v2,a2]
    repeat' (first|intro _|apply And.intro|(unfold dOk;kernel_rfl)|exact St.beq_refl _|(show altO _ _ _ _=true;kernel_rfl)|(show (_||_)=true;kernel_rfl)|(show (_&&_)=true;kernel_rfl))
    generalize R2++[z==0]=R3
    have hR4:AV.plainL (R1++[rowAV rw1])=true:=by
     rw[plainL_iff]at hR1 ⊢
     intro x hx
     rcases List.mem_append.1 hx with h|h
     ·exact hR1 x h
     ·simp at h;subst h;simp[AV.plain,plain_ints]
    generalize R1++[rowAV rw1]=R4 at *
    exact(by first|rfl|(refine prep_cut rfl (by rfl) (by rfl) (by rfl) ?_ ?_<;>simp[AV.underL,AV.under,MB.under,underL_plain,under_plain,plain_ints,plain_span,plain_ins,plain_prg,-List.map_take,plain_ints,plain_cls,hR4,plain_bools9]))
   ·rw[show someRow l n 0 i=[] from rfl]
    generalize (List.range i).map (fun i=>rowAV (someRow l n C.length i))=R1 at *
    generalize ((List.range i).map fun i=>someAc l i).map AV.bool=R2 at *
    exact(by first|rfl|(refine prep_cut rfl (by rfl) (by rfl) (by rfl) ?_ ?_<;>simp[AV.underL,AV.under,MB.under,underL_plain,under_plain,plain_ints,plain_span,plain_ins,plain_prg,-List.map_take,plain_ints,plain_cls,hR1,hR2]))
  ·intro _
   have hRn:AV.plainL ((List.range n).map (fun i=>rowAV (someRow l n C.length i)))=true:=by
    rw[plainL_iff]
    intro x hx
    obtain⟨j,_,rfl⟩:=List.mem_map.1 hx
    simp[AV.plain,plain_ints]
   have hBn:=plain_bools9 ((List.range n).map fun i=>someAc l i)
   simp +contextual (disch:=omega) only[Tryz.f20,dd20,go_sem,simprocAttr,List.map_append,mu20,↓wrap_up,↓wrap_down,↓wrap_pred,↓wrap_sub_nat]
   rw[show (List.range n).map (fun i=>rowAV (someRow l n C.length i))=((List.range n).map fun i=>someRow l n C.length i).map rowAV by rw[List.map_map];rfl]at hRn ⊢
   refine⟨_,fz_agg3 (fz_plain _ (by simp[AV.plain,plain_cls])) (fz_row (z:=0) rfl (by simp) hRn) (fz_row (z:=0) rfl (by simp) hBn)⟩
  ·exact(by first|rfl|(refine prep_cut rfl (by rfl) (by rfl) (by rfl) ?_ ?_<;>simp[AV.underL,AV.under,MB.under,underL_plain,under_plain,plain_ints,plain_span,plain_ins,plain_prg,-List.map_take,plain_ints,plain_cls]))
end
end Go.Ev
