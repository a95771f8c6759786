/- What functions of the program compute; no further conditions. -/
import Derived.Test.YtkolcijbdendhaaGreatD16
set_option linter.unusedVariables false
set_option linter.unusedSimpArgs false
open List (append_nil cons_append ext_getElem? getElem?_append_right getElem?_drop getElem?_eq_getElem getElem?_map getElem?_set_self length_append map_cons map_nil map_set map_take nil_append take_left' take_length take_of_length_le)
open Nat (add_zero le_refl sub_self)
open Go.Proofs Go.RowKit Go.IntWalk
set_option maxHeartbeats 4000000
set_option maxRecDepth 100000
namespace Go.Ev
attribute [local go_sem] evAppend evBin AV.cells A8 BI bndO bnd evEq eqCells not_false_eq_true not_true_eq_false toList_some Array.size_empty length_append List.map_append tySzE List.head?_drop Nat.mul_one As A1 Am At Au Ag
section
def plB (b:MB):Prop:=∀ n,MB.under n b=true
def HP (H:List MB):Prop:=∀ b∈H,plB b
theorem HP.all {H:List MB} (h:HP H) (n:Nat):H.all (MB.under n)=true:=List.all_eq_true.2 fun b hb=>h b hb n
theorem AW {k z:Nat}{e:List AV} (he:AV.plainL e=true):plB (.row k e z):=fun n=>AE n e he
theorem HP.set {H:List MB} (h:HP H) {i k z:Nat}{e:List AV} (he:AV.plainL e=true):HP (H.set i (.row k e z)):=fun b hb=>by
 rcases List.mem_or_eq_of_mem_set hb with g|rfl
 ·exact h b g
 ·exact AW he
theorem HP.push {H:List MB} (h:HP H) {b:MB} (hb:plB b):HP (H++[b]):=fun c hc=>by
 rcases List.mem_append.1 hc with g|g
 ·exact h c g
 ·rw[List.mem_singleton.1 g];exact hb
theorem HP.nil:HP []:=fun b hb=>by cases hb
theorem HP.cons {H:List MB} (h:HP H) {b:MB} (hb:plB b):HP (b::H):=fun c hc=>by
 rcases List.mem_cons.1 hc with rfl|g
 ·exact hb
 ·exact h c g
theorem Se (g:Nat) (p:Re->Bool) (l:List Re) {H:List MB}{id n z:Nat} (hr:H[id]?=some (.row 8 (l.map reAV) z)) (hn:l.length=n) (hl:n<=1000000000) (hy:g≠yldF) (hg:∀ r∈l,∀ H,call Pg pol1 g [reAV r] H=some (.bool (p r),H)) :
  call Pg pol1 103 [.ms id 8 n 0 n,.clo g []] H=some (I (idxR p l),H):=by
 subst hn;have hfr:frzArgs pol1 103 0 [.ms id 8 l.length 0 l.length,.clo g []] H=some ([.ms id 8 l.length 0 l.length,.clo g []],H):=rfl;have rp:=fun r:Int=>J4 (f:=103) (H:=H) rfl rfl (show AV.plain (I r)=true from rfl);refine AT (pol:=pol1) Tryz.func103 rfl rfl rfl rfl hfr ?_;have hlen:(l.map reAV).length=l.length:=by simp
 obtain⟨E,hE⟩:∃ E,l.map reAV=E:=⟨_,rfl⟩;rw[hE]at hr hlen;simp +contextual (disch:=omega) only[Tryz.f103,Fn,go_sem,simprocAttr,Fc,↓AD,↓AC,↓AB,↓AA];have hfi:l.findIdx p<=l.length:=List.findIdx_le_length;refine AY (M:=(mskOf (pol1.mask 103) (pol1.gc 103) (pol1.acts 103) 0 2)) (by rfl) l.length (fun i=>(⟨19,[(8,I i),(7,I l.length),(1,.clo g []),(0,.ms id 8 l.length 0 l.length)],H⟩:St)) (fun i=>i<=l.findIdx p) ?_ ?_ (Nat.zero_le _) _ (by rfl)
 ·intro i hi hinv;obtain⟨r,hri⟩:∃ r,l[i]?=some r:=⟨_,getElem?_eq_getElem hi⟩;have hr':=BB hri;rw[hE]at hr';have hgr:=hg r (List.mem_of_getElem? hri);have hlt:(i:Int)<(l.length:Int):=by omega
  cases hp:p r with
  | true=>
    have e:l.findIdx p=i:=by
     rcases Nat.lt_or_eq_of_le hinv with h|h
     ·have:=List.not_of_lt_findIdx h;have h2:l[i]=r:=by rw[getElem?_eq_getElem hi]at hri;exact Option.some.inj hri
      rw[h2]at this;rw[hp]at this;cases this
     ·exact h.symm
    rw[hp]at hgr;have e2:idxR p l=(i:Int):=by unfold idxR;rw[e,if_pos hi]
    rw[e2];simp +contextual (disch:=omega) only[Tryz.f103,Fn,go_sem,simprocAttr,Fc,↓AD,↓AC,↓AB,↓AA,hr,hr',hgr,hlt,hy,AH,AI,AL,hlen];exact rp _
  | false=>
    rw[hp]at hgr;have hinv2:i+1<=l.findIdx p:=by
     rcases Nat.lt_or_eq_of_le hinv with h|h
     ·exact h
     ·exfalso;have h1:l.findIdx p<l.length:=by omega
      have:=List.findIdx_getElem (xs:=l) (p:=p) (w:=h1);have h2:l[l.findIdx p]=r:=by
       rw[getElem?_eq_getElem hi]at hri;have:=Option.some.inj hri;simp only[<- h];exact this
      rw[h2,hp]at this;cases this
    simp +contextual (disch:=omega) only[Tryz.f103,Fn,go_sem,simprocAttr,Fc,↓AD,↓AC,↓AB,↓AA,hr,hr',hgr,hlt,hy,AH,AI,AL,hlen]
    first|exact⟨hinv2,by rfl⟩|rfl
 ·intro hinv;have e2:idxR p l = -1:=by unfold idxR;rw[if_neg (by omega)]
  rw[e2];simp +contextual (disch:=omega) only[Tryz.f103,Fn,go_sem,simprocAttr,Fc,↓AD,↓AC,↓AB,↓AA,hr];exact rp _
def keepR (l:List Re):List Re:=l.filter fun r=>!decide (r.op=0)
def zerosR (k:Nat):List AV:=List.replicate k zeR
theorem NL {p:Re->Bool}{l:List Re} (h:idxR p l = -1):l.filter (fun r=>!p r)=l:=by
 rw[List.filter_eq_self];intro a ha;have h2:=KR p l;rw[h]at h2;have h3:l.any p=false:=by rw[<- h2];rfl
 rw[List.any_eq_false]at h3;have:=h3 a ha;simp only[Bool.not_eq_true]at this;rw[this];rfl
theorem NK {p:Re->Bool}{l:List Re} (h:idxR p l≠-1):∃ k r,idxR p l=((k:Nat):Int)/\k<l.length/\l[k]?=some r/\p r=true/\(l.take (k+1)).filter (fun r=>!p r)=l.take k:=by
 unfold idxR at h |-;split at h
 ·rename_i hlt;rw[if_pos hlt];have hp:=List.findIdx_getElem (xs:=l) (p:=p) (w:=hlt);refine⟨l.findIdx p,l[l.findIdx p],rfl,hlt,getElem?_eq_getElem hlt,hp,?_⟩;rw[AX (getElem?_eq_getElem hlt),List.filter_append];have e1:(l.take (l.findIdx p)).filter (fun r=>!p r)=l.take (l.findIdx p):=by
   rw[List.filter_eq_self];intro a ha;obtain⟨i,hi,rfl⟩:=List.mem_iff_getElem.1 ha;have hi2:i<l.findIdx p:=by rw[List.length_take]at hi;omega
   have:=List.not_of_lt_findIdx hi2;rw[List.getElem_take];have:p l[i]=false:=by simpa using this
   rw[this];rfl
  rw[e1];simp[hp]
 ·exact absurd rfl h
theorem d106 (l:List Re) {H:List MB}{id n:Nat} (hr:H[id]?=some (.row 8 (l.map reAV) 0)) (hn:l.length=n) (hl:n<=1000000000) (hH:HP H) :
  ∃ Z:List AV,Z.length=n-(keepR l).length/\call Pg pol1 106 [.ms id 8 n 0 n,.clo 108 []] H=some (.ms id 8 n 0 (keepR l).length,H.set id (.row 8 ((keepR l).map reAV++Z) 0)):=by
 have hfr:frzArgs pol1 106 0 [.ms id 8 n 0 n,.clo 108 []] H=some ([.ms id 8 n 0 n,.clo 108 []],H):=rfl;have rp:∀ H1 r H,retPol pol1 106 H1 r H=some (r,H):=fun H1 r H=>rfl;have h103:=Se 108 (fun r=>decide (r.op=0)) l hr hn hl (by decide) (fun r _ H=>d108 r H);have hid:=(List.getElem?_eq_some_iff.1 hr).1;by_cases hx:idxR (fun r=>decide (r.op=0)) l = -1
 ·have hk:keepR l=l:=NL hx;refine⟨[],by rw[hk,hn,sub_self];rfl,?_⟩;rw[hk,append_nil];subst hn;refine AT (pol:=pol1) Tryz.func106 rfl rfl rfl rfl hfr ?_;have hs:H.set id (.row 8 (l.map reAV) 0)=H:=by
   apply ext_getElem?;intro q;by_cases e:id=q
   ·subst e;rw[getElem?_set_self hid,hr]
   ·rw[List.getElem?_set_ne e]
  rw[hs];rw[hx]at h103;simp +contextual (disch:=omega) only[Tryz.f106,Kk,go_sem,simprocAttr,KF,↓AD,↓AC,↓AB,↓AA,h103];exact rp _ _ _
 ·obtain⟨k,r0,e1,hk,hr0,hp0,hf⟩:=NK hx;rw[e1]at h103;have hk1:¬ ((k:Nat):Int) = -1:=by omega
  refine⟨zerosR (n-(keepR l).length),by simp[zerosR],?_⟩;refine AT (pol:=pol1) Tryz.func106 rfl rfl rfl rfl hfr ?_;simp +contextual (disch:=omega) only[Tryz.f106,Kk,go_sem,simprocAttr,KF,↓AD,↓AC,↓AB,↓AA,h103,hk1];have hFl:∀ j,(keepR (l.take j)).length<=j:=fun j=>by
   have h1:=List.length_filter_le (fun r:Re=>!decide (r.op=0)) (l.take j);have h2:=List.length_take_le j l;unfold keepR;omega
  have hf':keepR (l.take (k+1))=l.take k:=hf;have hkeep1:(keepR (l.take (k+1))).length=k:=by rw[hf',List.length_take];omega
  have hle:∀ s,(keepR (l.take (k+1+s))).length<=k+s:=fun s=>by
   induction s with
   | zero=>rw[add_zero,hkeep1];omega
   | succ s ih=>
     by_cases hs:k+1+s<l.length
     ·rw[show k+1+(s+1)=k+1+s+1 by omega,AX (getElem?_eq_getElem hs)];unfold keepR at ih |-;rw[List.filter_append,length_append];have:=List.length_filter_le (fun r:Re=>!decide (r.op=0)) [l[k+1+s]];simp only[List.length_cons,List.length_nil]at this;omega
     ·rw[take_of_length_le (by omega)];rw[take_of_length_le (by omega)]at ih;omega
  refine AY (M:=mskOf (pol1.mask 106) (pol1.gc 106) (pol1.acts 106) H.length 5) (by rfl) (l.length-(k+1)) (fun s=>(⟨42,[(6,I (k+1+s:Nat)),(5,I (keepR (l.take (k+1+s))).length),(1,.clo 108 []),(0,.ms id 8 n 0 n)],H.set id (.row 8 ((keepR (l.take (k+1+s))++l.drop (keepR (l.take (k+1+s))).length).map reAV) 0)⟩:St)) (fun _=>True) ?_ ?_ trivial _ ?_
  ·intro s hs _;obtain⟨r,hri⟩:∃ r,l[k+1+s]?=some r:=⟨_,getElem?_eq_getElem (by omega)⟩;have h108:=d108 r;have hle1:=hle s;have hst:keepR (l.take (k+1+(s+1)))=keepR (l.take (k+1+s))++(if r.op=0 then [] else [r]):=by
    rw[show k+1+(s+1)=k+1+s+1 by omega,AX hri];unfold keepR;rw[List.filter_append];by_cases h:r.op=0<;>simp[h]
   rw[hst];generalize hF:keepR (l.take (k+1+s))=F at *;have hget:((F++l.drop F.length).map reAV)[k+1+s]?=some (reAV r):=by
    rw[getElem?_map,getElem?_append_right (by omega),getElem?_drop,show F.length+(k+1+s-F.length)=k+1+s by omega,hri];rfl
   have hrow:(H.set id (.row 8 ((F++l.drop F.length).map reAV) 0))[id]?=some (.row 8 ((F++l.drop F.length).map reAV) 0):=getElem?_set_self hid;have hrow2:=fun x:MB=>show (H.set id (.row 8 ((F++l.drop F.length).map reAV) 0)++[x])[id]?=_ from(List.getElem?_append_left (by simpa using hid)).trans hrow;have hset2:=fun x y:MB=>show (H.set id (.row 8 ((F++l.drop F.length).map reAV) 0)++[x]).set id y=H.set id y++[x] by rw[List.set_append_left _ _ (by simpa using hid),List.set_set]
   have hlen:((F++l.drop F.length).map reAV).length=n:=by simp;omega
   have hlt:((k+1+s:Nat):Int)<(n:Int):=by omega
   have hFn:F.length<n:=by omega
   have hFi:((F.length:Nat):Int)<(n:Int):=by omega
   by_cases h:r.op=0
   ·rw[if_pos h,append_nil];rw[decide_eq_true h]at h108;generalize hE:(F++l.drop F.length).map reAV=E at *;simp +contextual (disch:=omega) only[Tryz.f106,Kk,go_sem,simprocAttr,KF,↓AD,↓AC,↓AB,↓AA,hrow,hget,hlen,hlt,h108,AH,AI,AL,Bo,IW,hrow2,hset2];subst hE;exact AR (n:=H.length) rfl rfl (by rfl) (by rw[List.take_append_of_le_length (by simp),take_of_length_le (by simp)]) (by simp[AV.underL,AV.under,hid]) ((hH.set (AG _)).all _)
   ·rw[if_neg h];rw[decide_eq_false h]at h108;obtain⟨r2,hr2⟩:∃ r2,l[F.length]?=some r2:=⟨_,getElem?_eq_getElem (by omega)⟩;have hget2:((F++l.drop F.length).map reAV)[F.length]?=some (reAV r2):=by
     rw[getElem?_map,getElem?_append_right (le_refl _),getElem?_drop,show F.length+(F.length-F.length)=F.length by omega,hr2];rfl
    have hd2:(reC r2).drop 8=[]:=List.drop_of_length_le (by rw[AH];omega);have hset:((F++l.drop F.length).map reAV).set F.length (reAV r)=((F++[r])++l.drop (F++[r]).length).map reAV:=by
     rw[<- map_set,List.set_append_right _ _ (le_refl _),sub_self];have:l.drop F.length=l[F.length]'(by omega)::l.drop (F.length+1):=List.drop_eq_getElem_cons (by omega);rw[this,List.set_cons_zero,length_append,List.append_assoc];rfl
    have hpE:=AG ((F++[r])++l.drop (F++[r]).length);generalize ((F++[r])++l.drop (F++[r]).length).map reAV=E2 at *;generalize hE:(F++l.drop F.length).map reAV=E at *;simp +contextual (disch:=omega) only[Tryz.f106,Kk,go_sem,simprocAttr,KF,↓AD,↓AC,↓AB,↓AA,hrow,hget,hlen,hlt,h108,hFi,hFn,AH,AI,AL,hset,Bo,IW,hrow2,hset2,hget2,hd2];exact AR (n:=H.length) rfl rfl (by rfl) (by rw[List.take_append_of_le_length (by simp),take_of_length_le (by simp)]) (by simp[AV.underL,AV.under,hid]) ((hH.set hpE).all _)
  ·intro _;have hj:k+1+(l.length-(k+1))=l.length:=by omega
   rw[hj,take_length];have hle2:(keepR l).length<=l.length:=List.length_filter_le _ _;have hmn:¬ ((l.length:Nat):Int)<(n:Int):=by omega
   have hmi:((keepR l).length:Int)<=(n:Int):=by omega
   have hrow:(H.set id (.row 8 ((keepR l++l.drop (keepR l).length).map reAV) 0))[id]?=some (.row 8 ((keepR l++l.drop (keepR l).length).map reAV) 0):=getElem?_set_self hid;have hlen:((keepR l++l.drop (keepR l).length).map reAV).length=n:=by simp;omega
   have htk:((keepR l++l.drop (keepR l).length).map reAV).take (keepR l).length=(keepR l).map reAV:=by
    rw[<- map_take,take_left' rfl]
   have hclr:evClear Pg (H.set id (.row 8 ((keepR l++l.drop (keepR l).length).map reAV) 0)) 24 (.ms id 8 n (keepR l).length (n-(keepR l).length))=some (H.set id (.row 8 ((keepR l).map reAV++zerosR (n-(keepR l).length)) 0)):=by
    unfold evClear;have hg:getRow (H.set id (.row 8 ((keepR l++l.drop (keepR l).length).map reAV) 0)) id=some (8,(keepR l++l.drop (keepR l).length).map reAV,0):=by unfold getRow;rw[hrow]
    have e1:tyElem Pg 24=some 26:=by kernel_rfl
    have e2:tyZero Pg 26=some zeR:=by kernel_rfl
    simp only[hg,e1,e2];rw[if_neg (by omega),if_pos ⟨⟨hlen,trivial,by omega⟩,⟨by omega,trivial,rfl⟩,rfl⟩,htk,List.set_set];rfl
   generalize (keepR l++l.drop (keepR l).length).map reAV=E at *;simp +contextual (disch:=omega) only[Tryz.f106,Kk,go_sem,simprocAttr,KF,↓AD,↓AC,↓AB,↓AA,hrow,hlen,hmn,hmi,hclr,hle2];rw[Nat.sub_zero];exact rp _ _ _
  ·have hs:H.set id (.row 8 (l.map reAV) 0)=H:=by
    apply ext_getElem?;intro q;by_cases e:id=q
    ·subst e;rw[getElem?_set_self hid,hr]
    ·rw[List.getElem?_set_ne e]
   rw[add_zero,hkeep1,hf',List.take_append_drop,hs];exact AR (n:=H.length) rfl rfl (by rfl) (take_length) (by simp[AV.underL,AV.under,hid]) (hH.all _)
end
section
theorem Oy {L:List Re}{Z:List AV}{H:List MB}{id n m z:Nat} (hr:getRow H id=some (8,L.map reAV++Z,z)) (hm:L.length=m) (hn:m+Z.length=n):fz (.ms id 8 n 0 m) H=some (.sl false (L.map reAV),mark H id m):=by
 have ht:(L.map reAV++Z).take m=L.map reAV:=take_left' (by simp[hm]);have:=Oz (n:=5) hr (by simp[hm,hn]) (show m<=n by omega) (by rw[ht];exact AG L);rw[ht]at this;exact this
theorem Ou (l:List Re):(keepR l).length<=l.length:=List.length_filter_le _ _
theorem d79 (kids:List Re) (hw:Re.wtL kids<=1000000000) (H:List MB):call Pg pol1 79 [.sl false (kids.map reAV)] H=some (reAV (catR (flatR 2 kids)),H):=by
 have h107:=d107 2 kids hw;have hfl:(flatR 2 kids).length<=1000000000:=by
  have h1:=Re.wtL_len (flatR 2 kids);have h2:=C3 2 kids;omega
 have hkl:=Ou (flatR 2 kids);refine AS Tryz.func79 rfl rfl rfl rfl rfl rfl (fun _=>rfl) (by simp[AV.plain,AV.plainL,AG]) (AU _) ?_ H;have hcat:catR (flatR 2 kids)=if(keepR (flatR 2 kids)).any isNoth then nothR else joinR 2 (keepR (flatR 2 kids)) emptyR:=rfl
 rw[hcat];generalize flatR 2 kids=F at *;obtain⟨Z,hZ,h106⟩:=d106 F (H:=[.row 8 [zeR] 0,.row 8 (F.map reAV) 0]) (id:=1) (n:=F.length) rfl rfl hfl ((HP.nil.cons (AW (AG F))).cons fun _=>rfl);have hz:∀ z,fz (.ms 1 8 F.length 0 (keepR F).length) [.row 8 [zeR] 0,.row 8 ((keepR F).map reAV++Z) z]=some (.sl false ((keepR F).map reAV),[.row 8 [zeR] 0,.row 8 ((keepR F).map reAV++Z) (max z (keepR F).length)]):=fun z=>by
  rw[Oy (z:=z) rfl rfl (by omega)];rfl
 simp only[List.set_cons_succ,List.set_cons_zero]at h106;generalize keepR F=K at *;have h73:=d73 109 isNoth K (by omega) (by decide) (fun r _ H=>d109 r H);have c73:=fun z=>(Bc (P:=Pg) (pol:=pol1) (f:=73) (args:=[.ms 1 8 F.length 0 K.length,.clo 109 []]) (l:=[.sl false (K.map reAV),.clo 109 []]) (H:=[.row 8 [zeR] 0,.row 8 (K.map reAV++Z) z]) (H1:=[.row 8 [zeR] 0,.row 8 (K.map reAV++Z) (max z K.length)]) rfl (by
  simp only[frzArgs,show pol1.byref 73 0=false from rfl,show pol1.byref 73 (0+1)=false from rfl,Bool.false_eq_true,if_false,hz,Ad _ (show AV.plain (.clo 109 [])=true from rfl)]) (by simp[AV.plainL,AV.plain,AG])).trans (h73 _)
 have h90:=fun H=>d90 2 K emptyR H;have c90:=fun z=>(Bc (P:=Pg) (pol:=pol1) (f:=90) (args:=[I 2,.ms 1 8 F.length 0 K.length,reAV emptyR]) (l:=[I 2,.sl false (K.map reAV),reAV emptyR]) (H:=[.row 8 [zeR] 0,.row 8 (K.map reAV++Z) z]) (H1:=[.row 8 [zeR] 0,.row 8 (K.map reAV++Z) (max z K.length)]) rfl (by
  simp only[frzArgs,show pol1.byref 90 0=false from rfl,show pol1.byref 90 (0+1)=false from rfl,show pol1.byref 90 (0+1+1)=false from rfl,Bool.false_eq_true,if_false,hz,Ad _ (show AV.plain (I 2)=true from rfl),Ad _ (AU emptyR)]) (by simp[AV.plainL,AV.plain,AG,AM])).trans (h90 _)
 cases hn:K.any isNoth with
 | true=>
   rw[hn]at c73;rw[if_pos rfl];simp +contextual (disch:=omega) only[Tryz.f79,dd79,go_sem,simprocAttr,mu79,↓AD,↓AC,↓AB,↓AA,h107,h106,c73,c90,d91,AH,AI,AL];exact fzEq (AU _) rfl
 | false=>
   rw[hn]at c73;rw[if_neg (by simp)];simp +contextual (disch:=omega) only[Tryz.f79,dd79,go_sem,simprocAttr,mu79,↓AD,↓AC,↓AB,↓AA,h107,h106,c73,c90,d82,AH,AI,AL];exact fzEq (AU _) rfl
def repA (mn mx:Int) (k:Re):AV:=match k with
 | .mk op set kids kmn kmx md n neg=>
   if op=0∨(isNoth (.mk op set kids kmn kmx md n neg)=true/\mn=0) then .tup [reAV emptyR,.bool true] else if isNoth (.mk op set kids kmn kmx md n neg)=true∨(op=4/\kmn=0/\kmx = -1)∨(mn=1/\mx=1) then .tup [reAV emptyR,.bool false] else .tup [reAV (.mk 4 [] [.mk op set kids kmn kmx md n neg] mn mx 0 0 false),.bool true]
theorem JI {mn mx op kmn kmx md n:Int}{set:List (Int×Int)}{kids:List Re}{neg:Bool}:repA mn mx (.mk op set kids kmn kmx md n neg)=(if op=0∨(isNoth (.mk op set kids kmn kmx md n neg)=true/\mn=0) then .tup [reAV emptyR,.bool true] else if isNoth (.mk op set kids kmn kmx md n neg)=true∨(op=4/\kmn=0/\kmx = -1)∨(mn=1/\mx=1) then .tup [reAV emptyR,.bool false] else .tup [reAV (.mk 4 [] [.mk op set kids kmn kmx md n neg] mn mx 0 0 false),.bool true]):=rfl
theorem QG {r:AV}{H H':List MB}{x:AV}{b:Bool} (h:fz r H=some (x,H')):∃ H',fz (.tup [r,.bool b]) H=some (.tup [x,.bool b],H'):=by
 refine⟨H',?_⟩;unfold fz at h |-;simp only[fzA,fzL,h,Option.bind_some,Option.map_some]
theorem d81 (op:Int) (set:List (Int×Int)) (ks:List Re) (mn mx md n:Int) (neg:Bool) (k:Re) (H:List MB) :
  call Pg pol1 81 [reAV (.mk op set ks mn mx md n neg),.sl false [reAV k]] H=some (repA mn mx k,H):=by
 obtain⟨kop,kset,kkids,kmn,kmx,kmd,kn,kneg⟩:=k;have hp1:AV.plain (reAV (.mk op set ks mn mx md n neg))=true:=AU _;have hp2:AV.plain (reAV (.mk kop kset kkids kmn kmx kmd kn kneg))=true:=AU _;have hpr:AV.plain (repA mn mx (.mk kop kset kkids kmn kmx kmd kn kneg))=true:=by
  rw[JI];split
  ·rfl
  ·split
   ·rfl
   ·simp only[AV.plain,AV.plainL,AM];rfl
 have h109:=d109 (.mk kop kset kkids kmn kmx kmd kn kneg);refine AS Tryz.func81 rfl rfl rfl rfl rfl rfl (fun _=>rfl) (by simp[AV.plain,AV.plainL,AM]) hpr ?_ H;have e8:reAV (.mk kop kset kkids kmn kmx kmd kn kneg)=.agg (nodeL kop kset kkids kmn kmx kmd kn kneg):=congrArg AV.agg Ai;rw[JI];generalize isNoth (.mk kop kset kkids kmn kmx kmd kn kneg)=v at *;have eR:reAV (.mk 4 [] [.mk kop kset kkids kmn kmx kmd kn kneg] mn mx 0 0 false)=.agg [I 4,.sl false [],.sl false [reAV (.mk kop kset kkids kmn kmx kmd kn kneg)],I mn,I mx,I 0,I 0,.bool false]:=congrArg AV.agg Ai;rw[eR];have e8':=e8;rw[e8]at hp2 h109;rw[show [reAV (.mk op set ks mn mx md n neg),AV.sl false [reAV (.mk kop kset kkids kmn kmx kmd kn kneg)]]=[.agg (nodeL op set ks mn mx md n neg),.sl false [.agg (nodeL kop kset kkids kmn kmx kmd kn kneg)]] from by rw[e8];exact congrArg (fun x=>[AV.agg x,_]) Ai];clear hpr;obtain⟨R1,hR1⟩:∃ R1:AV,R1=AV.tup [.agg [I 4,.sl false [],.sl false [reAV (.mk kop kset kkids kmn kmx kmd kn kneg)],I mn,I mx,I 0,I 0,.bool false],.bool true]:=⟨_,rfl⟩;rw[<- hR1];have hz:∀ H:List MB,∃ H',fz (.tup [.agg [I 4,.sl true [],.sl false [.agg (nodeL kop kset kkids kmn kmx kmd kn kneg)],I mn,I mx,I 0,I 0,.bool false],.bool true]) H=some (R1,H'):=fun H=>by
  obtain⟨H',h⟩:=Mb (op:=4) (a:=mn) (b:=mx) (c:=0) (d:=0) (l:=[.mk kop kset kkids kmn kmx kmd kn kneg]) (g:=false) (t:=true) (u:=false) (H:=H);simp only[map_cons,map_nil]at h;rw[hR1,<- e8'];exact QG h
 have f1:¬ (1:Int)=0:=by omega
 cases v
 ·by_cases c0:kop=0
  ·subst c0;rw[if_pos (.inl rfl)];simp +contextual (disch:=omega) only[Tryz.f81,dd81,go_sem,simprocAttr,mu81,↓AD,↓AC,↓AB,↓AA,h109,d82,AH,AI,AL];exact⟨_,rfl⟩
  rw[if_neg (by simp[c0])];by_cases a4:kop=4
  ·subst a4;by_cases a5:kmn=0
   ·subst a5;by_cases a6:kmx = -1
    ·subst a6;rw[if_pos (.inr (.inl ⟨rfl,rfl,rfl⟩))];simp +contextual (disch:=omega) only[Tryz.f81,dd81,go_sem,simprocAttr,mu81,↓AD,↓AC,↓AB,↓AA,h109,d82,AH,AI,AL];exact⟨_,rfl⟩
    ·by_cases m1:mn=1
     ·subst m1;by_cases m2:mx=1
      ·subst m2;rw[if_pos (.inr (.inr ⟨rfl,rfl⟩))];simp +contextual (disch:=omega) only[Tryz.f81,dd81,go_sem,simprocAttr,mu81,↓AD,↓AC,↓AB,↓AA,h109,d82,AH,AI,AL,a6];exact⟨_,rfl⟩
      ·rw[if_neg (by simp[a6,m2])];simp +contextual (disch:=omega) only[Tryz.f81,dd81,go_sem,simprocAttr,mu81,↓AD,↓AC,↓AB,↓AA,h109,d82,AH,AI,AL,a6,m2];exact hz _
     ·rw[if_neg (by simp[a6,m1])];simp +contextual (disch:=omega) only[Tryz.f81,dd81,go_sem,simprocAttr,mu81,↓AD,↓AC,↓AB,↓AA,h109,d82,AH,AI,AL,a6,m1];exact hz _
   ·by_cases m1:mn=1
    ·subst m1;by_cases m2:mx=1
     ·subst m2;rw[if_pos (.inr (.inr ⟨rfl,rfl⟩))];simp +contextual (disch:=omega) only[Tryz.f81,dd81,go_sem,simprocAttr,mu81,↓AD,↓AC,↓AB,↓AA,h109,d82,AH,AI,AL,a5];exact⟨_,rfl⟩
     ·rw[if_neg (by simp[a5,m2])];simp +contextual (disch:=omega) only[Tryz.f81,dd81,go_sem,simprocAttr,mu81,↓AD,↓AC,↓AB,↓AA,h109,d82,AH,AI,AL,a5,m2];exact hz _
    ·rw[if_neg (by simp[a5,m1])];simp +contextual (disch:=omega) only[Tryz.f81,dd81,go_sem,simprocAttr,mu81,↓AD,↓AC,↓AB,↓AA,h109,d82,AH,AI,AL,a5,m1];exact hz _
  ·by_cases m1:mn=1
   ·subst m1;by_cases m2:mx=1
    ·subst m2;rw[if_pos (.inr (.inr ⟨rfl,rfl⟩))];simp +contextual (disch:=omega) only[Tryz.f81,dd81,go_sem,simprocAttr,mu81,↓AD,↓AC,↓AB,↓AA,h109,d82,AH,AI,AL,c0,a4];exact⟨_,rfl⟩
    ·rw[if_neg (by simp[a4,m2])];simp +contextual (disch:=omega) only[Tryz.f81,dd81,go_sem,simprocAttr,mu81,↓AD,↓AC,↓AB,↓AA,h109,d82,AH,AI,AL,c0,a4,m2];exact hz _
   ·rw[if_neg (by simp[a4,m1])];simp +contextual (disch:=omega) only[Tryz.f81,dd81,go_sem,simprocAttr,mu81,↓AD,↓AC,↓AB,↓AA,h109,d82,AH,AI,AL,c0,a4,m1];exact hz _
 ·by_cases c0:kop=0
  ·subst c0;rw[if_pos (.inl rfl)];simp +contextual (disch:=omega) only[Tryz.f81,dd81,go_sem,simprocAttr,mu81,↓AD,↓AC,↓AB,↓AA,h109,d82,AH,AI,AL];exact⟨_,rfl⟩
  by_cases c1:mn=0
  ·subst c1;rw[if_pos (.inr ⟨rfl,rfl⟩)];simp +contextual (disch:=omega) only[Tryz.f81,dd81,go_sem,simprocAttr,mu81,↓AD,↓AC,↓AB,↓AA,h109,d82,AH,AI,AL,c0];exact⟨_,rfl⟩
  rw[if_neg (by simp[c0,c1]),if_pos (.inl rfl)];by_cases a4:kop=4
  ·subst a4;by_cases a5:kmn=0
   ·subst a5;by_cases a6:kmx = -1
    ·subst a6;simp +contextual (disch:=omega) only[Tryz.f81,dd81,go_sem,simprocAttr,mu81,↓AD,↓AC,↓AB,↓AA,h109,d82,AH,AI,AL,c1];exact⟨_,rfl⟩
    ·simp +contextual (disch:=omega) only[Tryz.f81,dd81,go_sem,simprocAttr,mu81,↓AD,↓AC,↓AB,↓AA,h109,d82,AH,AI,AL,c1,a6];exact⟨_,rfl⟩
   ·simp +contextual (disch:=omega) only[Tryz.f81,dd81,go_sem,simprocAttr,mu81,↓AD,↓AC,↓AB,↓AA,h109,d82,AH,AI,AL,c1,a5];exact⟨_,rfl⟩
  ·simp +contextual (disch:=omega) only[Tryz.f81,dd81,go_sem,simprocAttr,mu81,↓AD,↓AC,↓AB,↓AA,h109,d82,AH,AI,AL,c0,c1,a4];exact⟨_,rfl⟩
end
section
def lexP:List (Int×Int)->Int
 | []=>0
 | p::l=>if p.1<p.2 then -1 else if p.2<p.1 then 1 else lexP l
theorem Bt:∀ a b:List (Int×Int),lexP (a++b)=if lexP a≠0 then lexP a else lexP b
 | [],b=>by simp[lexP]
 | p::a,b=>by
   simp only[cons_append,lexP];split
   ·simp
   ·split
    ·simp
    ·exact Bt a b
theorem Ei:∀ {l m:List Int},lexI l m=lexP (l.zip m)
 | [],m=>by simp[lexI,lexP]
 | _::_,[]=>by simp[lexI,lexP]
 | x::l,y::m=>by
   rw[lexI,List.zip_cons_cons,lexP,Ei]
theorem d148 (ps:List (Int×Int)) (hl:ps.length<=1000000000) (H:List MB):call Pg pol1 148 [.sl false (ps.map spanAV)] H=some (I (lexP ps),H):=by
 refine AS Tryz.func148 rfl rfl rfl rfl rfl rfl (fun _=>rfl) (by simp[AV.plain,AV.plainL,AF]) rfl ?_ H;simp +contextual (disch:=omega) only[Tryz.f148,Kh,go_sem,simprocAttr,KC,↓AD,↓AC,↓AB,↓AA];refine AY (M:=(mskOf (pol1.mask 148) (pol1.gc 148) (pol1.acts 148) 0 2)) (by rfl) ps.length (fun i=>(⟨22,[(7,I i),(6,I ps.length),(5,.sl false (ps.map spanAV))],[]⟩:St)) (fun i=>lexP (ps.take i)=0) ?_ ?_ rfl _ (by first|rfl|(refine AR rfl (by rfl) (by rfl) (by rfl) ?_ ?_<;>simp[AV.underL,AV.under,MB.under,AE,AK,AJ,AF,AN,AO,-map_take,AF]))
 ·intro i hi hinv;obtain⟨p,hp⟩:∃ p,ps[i]?=some p:=⟨_,getElem?_eq_getElem hi⟩;have hp':(ps.map spanAV)[i]?=some (spanAV p):=by simp[hp]
  have hlt:(i:Int)<(ps.length:Int):=by omega
  have hst:lexP (ps.take (i+1))=lexP [p]:=by rw[AX hp,Bt,hinv];simp
  have hall:lexP [p]≠0->lexP ps=lexP [p]:=fun h=>by
   conv=>lhs;rw[<- List.take_append_drop (i+1) ps,Bt,hst,if_pos h]
  simp only[lexP]at hst hall;by_cases h1:p.1<p.2
  ·rw[if_pos h1]at hall;rw[hall (by omega)];simp +contextual (disch:=omega) only[Tryz.f148,Kh,go_sem,simprocAttr,KC,↓AD,↓AC,↓AB,↓AA,hp',hlt,h1];exact fzEq rfl rfl
  ·by_cases h2:p.2<p.1
   ·rw[if_neg h1,if_pos h2]at hall;rw[hall (by omega)];simp +contextual (disch:=omega) only[Tryz.f148,Kh,go_sem,simprocAttr,KC,↓AD,↓AC,↓AB,↓AA,hp',hlt,h1,h2];exact fzEq rfl rfl
   ·rw[if_neg h1,if_neg h2]at hst;simp +contextual (disch:=omega) only[Tryz.f148,Kh,go_sem,simprocAttr,KC,↓AD,↓AC,↓AB,↓AA,hp',hlt,h1,h2,hst];exact(by first|rfl|(refine AR rfl (by rfl) (by rfl) (by rfl) ?_ ?_<;>simp[AV.underL,AV.under,MB.under,AE,AK,AJ,AF,AN,AO,-map_take,AF]))
 ·intro hinv;rw[take_length]at hinv;rw[hinv];simp +contextual (disch:=omega) only[Tryz.f148,Kh,go_sem,simprocAttr,KC,↓AD,↓AC,↓AB,↓AA];exact fzEq rfl rfl
theorem PC (t:Bool) (ps:List (Int×Int)) (hl:ps.length<=1000000000) (H:List MB):call Pg pol1 148 [.sl t (ps.map spanAV)] H=some (I (lexP ps),H):=
 (Bc (P:=Pg) (pol:=pol1) (f:=148) (l:=[.sl false (ps.map spanAV)]) (H1:=H) rfl (by
   simp only[frzArgs,show pol1.byref 148 0=false from rfl,Bool.false_eq_true,if_false,RY (AF ps)]) (by simp[AV.plainL,AV.plain,AF])).trans (d148 ps hl H)
def tailK:Re->List Int
 | .mk op set kids mn mx md n neg=>[mn,mx,md,n,neg01 neg,(kids.length:Int)]
theorem Cy (r:Re):nodeK r=r.op::(r.set.length:Int)::(r.set.flatMap (fun p=>[p.1,p.2])++tailK r):=by
 cases r;rfl
def pairsS:List (Int×Int)->List (Int×Int)->List (Int×Int)
 | p::l,q::m=>(p.1,q.1)::(p.2,q.2)::pairsS l m
 | _,_=>[]
theorem Ga:∀ {l m:List (Int×Int)}{a b:List Int},l.length=m.length->((l.flatMap fun p=>[p.1,p.2])++a).zip ((m.flatMap fun p=>[p.1,p.2])++b)=pairsS l m++a.zip b
 | [],[],_,_,_=>rfl
 | [],_::_,_,_,h=>by simp at h
 | _::_,[],_,_,h=>by simp at h
 | p::l,q::m,a,b,h=>by
   have ih:=Ga (l:=l) (m:=m) (a:=a) (b:=b) (by simpa using h);simp only[List.flatMap_cons,cons_append,nil_append,List.zip_cons_cons,pairsS,ih]
theorem FX:∀ {l m:List (Int×Int)}{i:Nat}{p q:Int×Int},l[i]?=some p->m[i]?=some q->pairsS (l.take (i+1)) (m.take (i+1))=pairsS (l.take i) (m.take i)++[(p.1,q.1),(p.2,q.2)]
 | [],_,_,_,_,h,_=>by simp at h
 | _::_,[],_,_,_,_,h=>by simp at h
 | x::l,y::m,0,p,q,h1,h2=>by
   simp at h1 h2;subst h1;subst h2;simp[pairsS]
 | x::l,y::m,i+1,p,q,h1,h2=>by
   have:=FX (l:=l) (m:=m) (i:=i) (by simpa using h1) (by simpa using h2);simp only[List.take_succ_cons,pairsS,this,cons_append]
theorem Ee:∀ {l m:List (Int×Int)} (i:Nat),pairsS l m=pairsS (l.take i) (m.take i)++pairsS (l.drop i) (m.drop i)
 | [],m,i=>by simp[pairsS]
 | x::l,[],i=>by cases i<;>simp[pairsS]
 | x::l,y::m,0=>by simp[pairsS]
 | x::l,y::m,i+1=>by
   simp only[List.take_succ_cons,List.drop_succ_cons,pairsS,cons_append];rw[<- Ee i]
theorem NB (a b:Re):lexI (nodeK a) (nodeK b)=(if lexP [(a.op,b.op),((a.set.length:Int),(b.set.length:Int))]≠0 then lexP [(a.op,b.op),((a.set.length:Int),(b.set.length:Int))] else lexP (pairsS a.set b.set++(tailK a).zip (tailK b))):=by
 by_cases h:lexP [(a.op,b.op),((a.set.length:Int),(b.set.length:Int))]=0
 ·rw[if_neg (by simpa using h)];have hl:a.set.length=b.set.length:=by
   simp only[lexP]at h;split at h
   ·omega
   ·split at h
    ·omega
    ·split at h
     ·omega
     ·split at h<;>omega
  rw[Ei,Cy,Cy,List.zip_cons_cons,List.zip_cons_cons,Ga hl];have:=Bt [(a.op,b.op),((a.set.length:Int),(b.set.length:Int))] (pairsS a.set b.set++(tailK a).zip (tailK b));rw[if_neg (by simpa using h)]at this;exact this
 ·rw[if_pos h,Ei,Cy,Cy,List.zip_cons_cons,List.zip_cons_cons];have:=Bt [(a.op,b.op),((a.set.length:Int),(b.set.length:Int))] ((a.set.flatMap (fun p=>[p.1,p.2])++tailK a).zip (b.set.flatMap (fun p=>[p.1,p.2])++tailK b));rw[if_pos h]at this;exact this
theorem d133 (a b:Re) (ha:a.wt<=1000000000) (H:List MB):call Pg pol1 133 [.pt (reC a),.pt (reC b)] H=some (I (lexI (nodeK a) (nodeK b)),H):=by
 have hn:=NB a b;obtain⟨op,set,kids,mn,mx,md,n,neg⟩:=a;obtain⟨op',set',kids',mn',mx',md',n',neg'⟩:=b;simp only[Re.wt]at ha;have hkl:=Re.wtL_len kids;rw[show (.pt (reC (.mk op set kids mn mx md n neg)):AV)=.pt (nodeL op set kids mn mx md n neg) from congrArg AV.pt Ai,show (.pt (reC (.mk op' set' kids' mn' mx' md' n' neg')):AV)=.pt (nodeL op' set' kids' mn' mx' md' n' neg') from congrArg AV.pt Ai];have hn2:lexI (nodeK (.mk op set kids mn mx md n neg)) (nodeK (.mk op' set' kids' mn' mx' md' n' neg'))=(if lexP [(op,op'),((set.length:Int),(set'.length:Int))]≠0 then lexP [(op,op'),((set.length:Int),(set'.length:Int))] else lexP (pairsS set set'++[(mn,mn'),(mx,mx'),(md,md'),(n,n'),(neg01 neg,neg01 neg'),((kids.length:Int),(kids'.length:Int))])):=hn;clear hn;generalize lexI (nodeK (.mk op set kids mn mx md n neg)) (nodeK (.mk op' set' kids' mn' mx' md' n' neg'))=R at *;have g1:=fun H=>PC true [(op,op'),((set.length:Int),(set'.length:Int))] (by simp) H;have g3:=fun H=>PC true [(mn,mn'),(mx,mx'),(md,md'),(n,n'),(neg01 neg,neg01 neg'),((kids.length:Int),(kids'.length:Int))] (by simp) H;simp only[map_cons,map_nil]at g1 g3;refine AS Tryz.func133 rfl rfl rfl rfl rfl rfl (fun _=>rfl) (by simp[AV.plain,AV.plainL,AF,AG]) rfl ?_ H;by_cases h0:lexP [(op,op'),((set.length:Int),(set'.length:Int))]=0
 ·rw[if_neg (by simpa using h0)]at hn2;rw[h0]at g1;have hl:set.length=set'.length:=by
   simp only[lexP]at h0;split at h0
   ·omega
   ·split at h0
    ·omega
    ·split at h0
     ·omega
     ·split at h0<;>omega
  clear h0;rw[Bt]at hn2;simp +contextual (disch:=omega) only[Tryz.f133,Ki,go_sem,simprocAttr,KD,↓AD,↓AC,↓AB,↓AA,g1];repeat' (first|intro _|apply And.intro|(unfold dOk;kernel_rfl)|exact St.beq_refl _|exact AP|(show altO _ _ _ _=true;kernel_rfl)|(show (_||_)=true;kernel_rfl)|(show (_&&_)=true;kernel_rfl))
  refine AY (M:=(mskOf (pol1.mask 133) (pol1.gc 133) (pol1.acts 133) 0 5)) (by rfl) set.length (fun i=>(⟨132,[(39,I i),(38,I set.length),(37,.sl false (set.map spanAV)),(1,.pt (nodeL op' set' kids' mn' mx' md' n' neg')),(0,.pt (nodeL op set kids mn mx md n neg))],[]⟩:St)) (fun i=>lexP (pairsS (set.take i) (set'.take i))=0) ?_ ?_ rfl _ (by first|rfl|(refine AR rfl (by rfl) (by rfl) (by rfl) ?_ ?_<;>simp[AV.underL,AV.under,MB.under,AE,AK,AJ,AF,AN,AO,-map_take,AF,AG]))
  ·intro i hi hinv;obtain⟨p,hp⟩:∃ p,set[i]?=some p:=⟨_,getElem?_eq_getElem hi⟩;obtain⟨q,hq⟩:∃ q,set'[i]?=some q:=⟨_,getElem?_eq_getElem (by omega)⟩;have hp':(set.map spanAV)[i]?=some (spanAV p):=by simp[hp]
   have hq':(set'.map spanAV)[i]?=some (spanAV q):=by simp[hq]
   have hlt:(i:Int)<(set.length:Int):=by omega
   have hlt2:(i:Int)<(set'.length:Int):=by omega
   have hst:lexP (pairsS (set.take (i+1)) (set'.take (i+1)))=lexP [(p.1,q.1),(p.2,q.2)]:=by rw[FX hp hq,Bt,hinv];simp
   have g2:=fun H=>PC true [(p.1,q.1),(p.2,q.2)] (by simp) H;simp only[map_cons,map_nil]at g2;by_cases hc:lexP [(p.1,q.1),(p.2,q.2)]=0
   ·rw[hc]at g2 hst;simp +contextual (disch:=omega) only[Tryz.f133,Ki,go_sem,simprocAttr,KD,↓AD,↓AC,↓AB,↓AA,hp',hq',hlt,hlt2,g2];repeat' (first|intro _|apply And.intro|(unfold dOk;kernel_rfl)|exact St.beq_refl _|exact AP|(show altO _ _ _ _=true;kernel_rfl)|(show (_||_)=true;kernel_rfl)|(show (_&&_)=true;kernel_rfl))
    ·exact hst
    ·exact(by first|rfl|(refine AR rfl (by rfl) (by rfl) (by rfl) ?_ ?_<;>simp[AV.underL,AV.under,MB.under,AE,AK,AJ,AF,AN,AO,-map_take,AF,AG]))
   ·have hall:lexP (pairsS set set')=lexP [(p.1,q.1),(p.2,q.2)]:=by
     rw[Ee (i+1),Bt,hst,if_pos hc]
    rw[hall,if_pos hc]at hn2;rw[hn2];generalize lexP [(p.1,q.1),(p.2,q.2)]=c at *;simp +contextual (disch:=omega) only[Tryz.f133,Ki,go_sem,simprocAttr,KD,↓AD,↓AC,↓AB,↓AA,hp',hq',hlt,hlt2,g2,hc];repeat' (first|intro _|apply And.intro|(unfold dOk;kernel_rfl)|exact St.beq_refl _|exact AP|(show altO _ _ _ _=true;kernel_rfl)|(show (_||_)=true;kernel_rfl)|(show (_&&_)=true;kernel_rfl))
    exact fzEq rfl rfl
  ·intro hinv;rw[take_length,take_of_length_le (by omega)]at hinv;rw[hinv,if_neg (by simp)]at hn2;rw[hn2];generalize lexP [(mn,mn'),(mx,mx'),(md,md'),(n,n'),(neg01 neg,neg01 neg'),((kids.length:Int),(kids'.length:Int))]=c at *;simp +contextual (disch:=omega) only[Tryz.f133,Ki,go_sem,simprocAttr,KD,↓AD,↓AC,↓AB,↓AA,g3,d87];repeat' (first|intro _|apply And.intro|(unfold dOk;kernel_rfl)|exact St.beq_refl _|exact AP|(show altO _ _ _ _=true;kernel_rfl)|(show (_||_)=true;kernel_rfl)|(show (_&&_)=true;kernel_rfl))
   exact fzEq rfl rfl
 ·rw[if_pos h0]at hn2;rw[hn2];generalize lexP [(op,op'),((set.length:Int),(set'.length:Int))]=c at *;simp +contextual (disch:=omega) only[Tryz.f133,Ki,go_sem,simprocAttr,KD,↓AD,↓AC,↓AB,↓AA,g1,h0];repeat' (first|intro _|apply And.intro|(unfold dOk;kernel_rfl)|exact St.beq_refl _|exact AP|(show altO _ _ _ _=true;kernel_rfl)|(show (_||_)=true;kernel_rfl)|(show (_&&_)=true;kernel_rfl))
  exact fzEq rfl rfl
theorem B9 (k k':Re) (a b:List Re):(cmpR k k' = 0/\cmpL (k::a) (k'::b)=cmpL a b)∨(cmpR k k'≠0/\cmpL (k::a) (k'::b)=cmpR k k'):=by
 by_cases h:cmpR k k' = 0
 ·left;refine⟨h,?_⟩;rw[cmpL,if_neg (by simpa using h)]
 ·right;refine⟨h,?_⟩;rw[cmpL,if_pos h]
theorem FG:∀ {a b:List Re} (x y:List Re),a.length=b.length->cmpL a b=0->cmpL (a++x) (b++y)=cmpL x y
 | [],[],x,y,_,_=>rfl
 | [],_::_,_,_,h,_=>by simp at h
 | _::_,[],_,_,h,_=>by simp at h
 | k::a,k'::b,x,y,h,h0=>by
   rcases B9 k k' a b with ⟨h1,e⟩|⟨h1,e⟩
   ·rcases B9 k k' (a++x) (b++y) with ⟨h2,e2⟩|⟨h2,e2⟩
    ·rw[cons_append,cons_append,e2];exact FG x y (by simpa using h) (by rw[<- e];exact h0)
    ·exact absurd h1 h2
   ·rw[e]at h0;exact absurd h0 h1
theorem FF:∀ {a b:List Re} (x y:List Re),a.length=b.length->cmpL a b≠0->cmpL (a++x) (b++y)=cmpL a b
 | [],[],x,y,_,h=>by simp[cmpL]at h
 | [],_::_,_,_,h,_=>by simp at h
 | _::_,[],_,_,h,_=>by simp at h
 | k::a,k'::b,x,y,h,h0=>by
   rcases B9 k k' a b with ⟨h1,e⟩|⟨h1,e⟩
   ·rcases B9 k k' (a++x) (b++y) with ⟨h2,e2⟩|⟨h2,e2⟩
    ·rw[cons_append,cons_append,e2,e];exact FF x y (by simpa using h) (by rw[<- e];exact h0)
    ·exact absurd h1 h2
   ·rcases B9 k k' (a++x) (b++y) with ⟨h2,e2⟩|⟨h2,e2⟩
    ·exact absurd h2 h1
    ·rw[cons_append,cons_append,e2,e]
theorem d132 (b0 b1:MB):∀(N:Nat) (a b:Re),a.wt<=N->a.wt<=1000000000->call Pg pol1 132 [.pt (reC a),.pt (reC b),.rf 2 1 0 0] [b0,b1,.row 1 [.clo 132 [.rf 2 1 0 0]] 0]=some (I (cmpR a b),[b0,b1,.row 1 [.clo 132 [.rf 2 1 0 0]] 0])
 | 0,a,_,h,_=>by have:=a.wt_pos;omega
 | N+1,a,b,h,hN=>by
   have h133:=d133 a b hN;have hce:=Jf a b;generalize hL:lexI (nodeK a) (nodeK b)=L0 at *;have hlen:L0=0->a.sub.length=b.sub.length:=fun h0=>by
    have:=Cx (hL.trans h0);obtain⟨op,set,kids,mn,mx,md,n,neg⟩:=a;obtain⟨op',set',kids',mn',mx',md',n',neg'⟩:=b;exact(JL this).2.2.1
   obtain⟨op,set,kids,mn,mx,md,n,neg⟩:=a;obtain⟨op',set',kids',mn',mx',md',n',neg'⟩:=b;rw[show (Re.mk op set kids mn mx md n neg).sub=kids from rfl,show (Re.mk op' set' kids' mn' mx' md' n' neg').sub=kids' from rfl]at hlen hce;have hwt:1+set.length+Re.wtL kids=(Re.mk op set kids mn mx md n neg).wt:=by simp[Re.wt]
   have hkl:=Re.wtL_len kids;have ih:=fun k (hk:k∈kids) (k':Re)=>d132 b0 b1 N k k' (by have:=Re.wtL_mem hk;omega) (by have:=Re.wtL_mem hk;omega);rw[hce];clear hce hL;obtain⟨F,hF⟩:∃ F:List MB,F=[b0,b1,.row 1 [.clo 132 [.rf 2 1 0 0]] 0]:=⟨_,rfl⟩;have ea:(.pt (reC (.mk op set kids mn mx md n neg)):AV)=.pt (nodeL op set kids mn mx md n neg):=congrArg AV.pt Ai;have eb:(.pt (reC (.mk op' set' kids' mn' mx' md' n' neg')):AV)=.pt (nodeL op' set' kids' mn' mx' md' n' neg'):=congrArg AV.pt Ai;rw[ea,eb]at h133 |-;have fr:frzArgs pol1 132 0 [.pt (nodeL op set kids mn mx md n neg),.pt (nodeL op' set' kids' mn' mx' md' n' neg'),.rf 2 1 0 0] [b0,b1,.row 1 [.clo 132 [.rf 2 1 0 0]] 0]=some ([.pt (nodeL op set kids mn mx md n neg),.pt (nodeL op' set' kids' mn' mx' md' n' neg'),.rf 2 1 0 0],[b0,b1,.row 1 [.clo 132 [.rf 2 1 0 0]] 0]):=
    AQ _ _ _ (by simp[mixOk,show pol1.byref 132 2=true from rfl,AV.plain,AV.plainL,AF,AG])
   have rt:∀ x:Int,retPol pol1 132 [b0,b1,.row 1 [.clo 132 [.rf 2 1 0 0]] 0] (I x) [b0,b1,.row 1 [.clo 132 [.rf 2 1 0 0]] 0]=some (I x,[b0,b1,.row 1 [.clo 132 [.rf 2 1 0 0]] 0]):=fun x=>
    Ae rfl rfl rfl (by simp[keptOk,MB.beq_refl]) rfl
   refine AT (pol:=pol1) Tryz.func132 rfl rfl rfl rfl fr ?_;by_cases h0:L0=0
   ·rw[if_neg (by simpa using h0)];have hl:=hlen h0;subst h0;simp +contextual (disch:=omega) only[Tryz.f132,Kj,go_sem,simprocAttr,KE,↓AD,↓AC,↓AB,↓AA,h133];refine AY (M:=mskOf (pol1.mask 132) (pol1.gc 132) (pol1.acts 132) 3 5) (by rfl) kids.length (fun i=>(⟨41,[(20,I i),(19,I kids.length),(2,.rf 2 1 0 0),(1,.pt (nodeL op' set' kids' mn' mx' md' n' neg')),(0,.pt (nodeL op set kids mn mx md n neg))],[b0,b1,.row 1 [.clo 132 [.rf 2 1 0 0]] 0]⟩:St)) (fun i=>cmpL (kids.take i) (kids'.take i)=0) ?_ ?_ rfl _ (by rfl)
    ·intro i hi hinv;obtain⟨k,hk⟩:∃ k,kids[i]?=some k:=⟨_,getElem?_eq_getElem hi⟩;obtain⟨k',hk'⟩:∃ k,kids'[i]?=some k:=⟨_,getElem?_eq_getElem (by omega)⟩;have ihk:=ih k (List.mem_of_getElem? hk) k';have g1:=BB hk;have g2:=BB hk';have hlt:(i:Int)<(kids.length:Int):=by omega
     have hlt2:(i:Int)<(kids'.length:Int):=by omega
     have hst:cmpL (kids.take (i+1)) (kids'.take (i+1))=cmpR k k':=by
      rw[AX hk,AX hk',FG _ _ (by simp;omega) hinv];rcases B9 k k' [] [] with ⟨h2,e2⟩|⟨h2,e2⟩
      ·rw[e2,h2];rfl
      ·exact e2
     by_cases hc:cmpR k k' = 0
     ·rw[hc]at hst ihk;simp +contextual (disch:=omega) only[Tryz.f132,Kj,go_sem,simprocAttr,KE,↓AD,↓AC,↓AB,↓AA,g1,g2,hlt,hlt2,ihk,AH,AI,AL];repeat' (first|intro _|apply And.intro|(unfold dOk;kernel_rfl)|exact St.beq_refl _|exact AP|(show altO _ _ _ _=true;kernel_rfl)|(show (_||_)=true;kernel_rfl)|(show (_&&_)=true;kernel_rfl))
      ·exact hst
      ·rfl
     ·have hall:cmpL kids kids' = cmpR k k':=by
       conv=>lhs;rw[<- List.take_append_drop (i+1) kids,<- List.take_append_drop (i+1) kids',FF _ _ (by simp;omega) (by rw[hst];exact hc),hst]
      rw[hall];generalize cmpR k k' = c at *;simp +contextual (disch:=omega) only[Tryz.f132,Kj,go_sem,simprocAttr,KE,↓AD,↓AC,↓AB,↓AA,g1,g2,hlt,hlt2,ihk,hc,AH,AI,AL];repeat' (first|intro _|apply And.intro|(unfold dOk;kernel_rfl)|exact St.beq_refl _|exact AP|(show altO _ _ _ _=true;kernel_rfl)|(show (_||_)=true;kernel_rfl)|(show (_&&_)=true;kernel_rfl))
      exact rt _
    ·intro hinv;rw[take_length,take_of_length_le (by omega)]at hinv;rw[hinv];simp +contextual (disch:=omega) only[Tryz.f132,Kj,go_sem,simprocAttr,KE,↓AD,↓AC,↓AB,↓AA];exact rt _
   ·rw[if_pos h0];simp +contextual (disch:=omega) only[Tryz.f132,Kj,go_sem,simprocAttr,KE,↓AD,↓AC,↓AB,↓AA,h133,h0];exact rt _
theorem d112 (a b:Re) (ha:a.wt<=1000000000) (H:List MB):call Pg pol1 112 [reAV a,reAV b] H=some (I (cmpR a b),H):=by
 have h132:=d132 (.row 8 [reAV a] 1) (.row 8 [reAV b] 1) a.wt a b (le_refl _) ha;refine AS Tryz.func112 rfl rfl rfl rfl rfl rfl (fun _=>rfl) (by simp[AV.plain,AV.plainL,AM]) rfl ?_ H;have f1:fz (.rf 0 1 0 0) [.row 8 [.agg (reC a)] 0,.row 8 [.agg (reC b)] 0]=some (.pt (reC a),[.row 8 [.agg (reC a)] 1,.row 8 [.agg (reC b)] 0]):=Fg (x:=.agg (reC a)) (k:=8) (z:=0) rfl rfl rfl (AM a);have f2:fz (.rf 1 1 0 0) [.row 8 [.agg (reC a)] 1,.row 8 [.agg (reC b)] 0]=some (.pt (reC b),[.row 8 [.agg (reC a)] 1,.row 8 [.agg (reC b)] 1]):=Fg (x:=.agg (reC b)) (k:=8) (z:=0) rfl rfl rfl (AM b);simp +contextual (disch:=omega) only[Tryz.f112,Sd,go_sem,simprocAttr,SJ,↓AD,↓AC,↓AB,↓AA,h132,f1,f2,AH,AI,AL,lookD,look];exact fzEq rfl rfl
end
section
theorem Ct:∀(N:Nat) (l:List Re) (y z:Re),l.length<=N->compactR (l++[y]++[z])=if cmpR y z=0 then compactR (l++[y]) else compactR (l++[y])++[z]
 | _,[],y,z,_=>by
   rw[nil_append,List.singleton_append];have e0:∀ x:Re,compactR [x]=[x]:=fun x=>by simp[compactR]
   by_cases h:cmpR y z=0
   ·have e:compactR [y,z]=[y]:=by rw[compactR,if_pos h,e0]
    rw[if_pos h,e];exact(e0 y).symm
   ·have e:compactR [y,z]=[y,z]:=by rw[compactR,if_neg h,e0]
    rw[if_neg h,e,e0];rfl
 | _,[x],y,z,_=>by
   simp only[cons_append,nil_append];rw[compactR];by_cases h:cmpR x y=0
   ·obtain rfl:=BW h;rw[if_pos h];have e:compactR [x,x]=[x]:=by rw[compactR,if_pos h];simp[compactR]
    rw[e,compactR];by_cases h':cmpR x z=0
    ·rw[if_pos h',if_pos h'];simp[compactR]
    ·rw[if_neg h',if_neg h'];simp[compactR]
   ·rw[if_neg h];have e:compactR [x,y]=[x,y]:=by rw[compactR,if_neg h];simp[compactR]
    rw[e,compactR];by_cases h':cmpR y z=0
    ·rw[if_pos h',if_pos h'];simp[compactR]
    ·rw[if_neg h',if_neg h'];simp[compactR]
 | N+1,x::w::l,y,z,hl=>by
   simp only[cons_append];rw[compactR,compactR];by_cases h:cmpR x w=0
   ·rw[if_pos h,if_pos h];exact Ct N (x::l) y z (by simp at hl |-;omega)
   ·rw[if_neg h,if_neg h];have:=Ct N (w::l) y z (by simp at hl |-;omega);simp only[cons_append]at this;rw[this];split<;>rfl
theorem Bp:∀(N:Nat) (l:List Re),l.length<=N->(compactR l).length<=l.length
 | _,[],_=>by simp[compactR]
 | _,[x],_=>by simp[compactR]
 | N+1,x::y::l,h=>by
   rw[compactR];split
   ·have:=Bp N (x::l) (by simp at h |-;omega);simp at this |-;omega
   ·have:=Bp N (y::l) (by simp at h |-;omega);simp at this |-;omega
theorem Dg {l:List Re}{p:Nat}{y z:Re} (h1:l[p]?=some y) (h2:l[p+1]?=some z):compactR (l.take (p+2))=if cmpR z y=0 then compactR (l.take (p+1)) else compactR (l.take (p+1))++[z]:=by
 have e1:l.take (p+1)=l.take p++[y]:=AX h1;have e2:l.take (p+2)=l.take p++[y]++[z]:=by rw[<- e1];exact AX h2
 have ha:=Bq z y;rw[e2,e1,Ct _ (l.take p) y z (le_refl _)];by_cases h:cmpR y z=0
 ·rw[if_pos h,if_pos (by omega)]
 ·rw[if_neg h,if_neg (by omega)]
theorem d114 (a b:Re) (ha:a.wt<=1000000000) (H:List MB):call Pg pol1 114 [reAV a,reAV b] H=some (.bool (decide (cmpR a b=0)),H):=by
 have h112:=d112 a b ha;refine AS Tryz.func114 rfl rfl rfl rfl rfl rfl (fun _=>rfl) (by simp[AV.plain,AV.plainL,AM]) rfl ?_ H;generalize cmpR a b=c at *;by_cases h:c=0
 ·subst h;simp +contextual (disch:=omega) only[Tryz.f114,Q8,go_sem,simprocAttr,Q2,↓AD,↓AC,↓AB,↓AA,h112,AH,AI,AL];exact⟨_,rfl⟩
 ·rw[decide_eq_false h];simp +contextual (disch:=omega) only[Tryz.f114,Q8,go_sem,simprocAttr,Q2,↓AD,↓AC,↓AB,↓AA,h112,h,AH,AI,AL];exact⟨_,rfl⟩
theorem Bf {H:List MB}{id:Nat}{b:MB} (hr:H[id]?=some b):H.set id b=H:=by
 have hid:=(List.getElem?_eq_some_iff.1 hr).1;apply ext_getElem?;intro q;by_cases e:id=q
 ·subst e;rw[getElem?_set_self hid,hr]
 ·rw[List.getElem?_set_ne e]
theorem Oh {l:List Re}{i:Nat}{r:Re} (hr:l[i]?=some r):r.wt<=Re.wtL l:=Re.wtL_mem (List.mem_of_getElem? hr)
theorem d113 (l:List Re) {H:List MB}{id n:Nat} (hr:H[id]?=some (.row 8 (l.map reAV) 0)) (hn:l.length=n) (hw:Re.wtL l<=1000000000) (hH:HP H) :
  call Pg pol1 113 [.ms id 8 n 0 n,.clo 114 []] H=some (.ms id 8 n 0 (compactR l).length,H.set id (.row 8 ((compactR l).map reAV++zerosR (n-(compactR l).length)) 0)):=by
 have hll:=Re.wtL_len l;have hfr:frzArgs pol1 113 0 [.ms id 8 n 0 n,.clo 114 []] H=some ([.ms id 8 n 0 n,.clo 114 []],H):=rfl;have rp:∀ H1 r H,retPol pol1 113 H1 r H=some (r,H):=fun H1 r H=>rfl;have hid:=(List.getElem?_eq_some_iff.1 hr).1;have hlen:(l.map reAV).length=n:=by simp[hn]
 have hsame:=Bf hr;have hnone:compactR l=l->H.set id (.row 8 ((compactR l).map reAV++zerosR (n-(compactR l).length)) 0)=H:=fun e=>by
  rw[e,hn,sub_self,show zerosR 0=[] from rfl,append_nil,hsame]
 refine AT (pol:=pol1) Tryz.func113 rfl rfl rfl rfl hfr ?_;by_cases h2:n<2
 ·have e:compactR l=l:=by
   match l,hn with
   | [],_=>simp[compactR]
   | [x],_=>simp[compactR]
   | _::_::_,hn=>simp at hn;omega
  rw[hnone e,e,hn];have h2':(n:Int)<2:=by omega
  simp +contextual (disch:=omega) only[Tryz.f113,Fm,go_sem,simprocAttr,Fb,↓AD,↓AC,↓AB,↓AA,h2'];exact rp _ _ _
 have h2':¬ (n:Int)<2:=by omega
 simp +contextual (disch:=omega) only[Tryz.f113,Fm,go_sem,simprocAttr,Fb,↓AD,↓AC,↓AB,↓AA,h2'];refine AY (M:=mskOf (pol1.mask 113) (pol1.gc 113) (pol1.acts 113) H.length 4) (by rfl) (n-1) (fun s=>(⟨66,[(5,I (s+1:Nat)),(1,.clo 114 []),(0,.ms id 8 n 0 n)],H⟩:St)) (fun s=>compactR (l.take (s+1))=l.take (s+1)) ?_ ?_ ?_ _ ?_
 ·intro s hs hinv;obtain⟨y,hy⟩:∃ y,l[s]?=some y:=⟨_,getElem?_eq_getElem (by omega)⟩;obtain⟨z,hz⟩:∃ z,l[s+1]?=some z:=⟨_,getElem?_eq_getElem (by omega)⟩;have hat:=Dg hy hz;have h114:=d114 z y (by have:=Oh hz;omega);have gy:=BB hy;have gz:=BB hz;have hlt:((s+1:Nat):Int)<(n:Int):=by omega
  have hlt2:(s:Int)<(n:Int):=by omega
  have hw1:IntKind.i64.wrap (((s+1:Nat):Int)-1)=(s:Int):=by rw[i64_in]<;>omega
  by_cases hc:cmpR z y=0
  ·rw[if_pos hc,hinv]at hat;rw[decide_eq_true hc]at h114;simp +contextual (disch:=omega) only[Tryz.f113,Fm,go_sem,simprocAttr,Fb,↓AD,↓AC,↓AB,↓AA,hr,hlen,gy,gz,hlt,hlt2,hw1,h114,AH,AI,AL];repeat' (first|intro _|apply And.intro|(unfold dOk;kernel_rfl)|exact St.beq_refl _|exact AP|(show altO _ _ _ _=true;kernel_rfl)|(show (_||_)=true;kernel_rfl)|(show (_&&_)=true;kernel_rfl))
   have hF0:∀ q,s+2+q<=n->(compactR (l.take (s+2+q))).length<=s+1+q:=fun q=>by
    induction q with
    | zero=>
      intro _;rw[add_zero,show s+2=s+1+1 by omega,hat,List.length_take];omega
    | succ q ih=>
      intro hq;have ih:=ih (by omega);obtain⟨y,hy⟩:∃ y,l[s+1+q]?=some y:=⟨_,getElem?_eq_getElem (by omega)⟩;obtain⟨z,hz⟩:∃ z,l[s+1+q+1]?=some z:=⟨_,getElem?_eq_getElem (by omega)⟩;have:=Dg hy hz;rw[show s+1+q+2=s+2+(q+1) by omega,show s+1+q+1=s+2+q by omega]at this;rw[this];split
      ·omega
      ·rw[length_append];simp only[List.length_cons,List.length_nil];omega
   refine AY (M:=mskOf (pol1.mask 113) (pol1.gc 113) (pol1.acts 113) H.length 9) (by rfl) (n-(s+2)) (fun q=>(⟨66,[(7,I (q+1:Nat)),(6,.ms id 8 n (s+1) (n-(s+1))),(5,I (compactR (l.take (s+2+q))).length),(1,.clo 114 []),(0,.ms id 8 n 0 n)],H.set id (.row 8 ((compactR (l.take (s+2+q))++l.drop (compactR (l.take (s+2+q))).length).map reAV) 0)⟩:St)) (fun _=>True) ?_ ?_ trivial _ ?_
   ·intro q hq _;obtain⟨y,hy⟩:∃ y,l[s+1+q]?=some y:=⟨_,getElem?_eq_getElem (by omega)⟩;obtain⟨z,hz⟩:∃ z,l[s+1+q+1]?=some z:=⟨_,getElem?_eq_getElem (by omega)⟩;have hat2:=Dg hy hz;have h114:=d114 z y (by have:=Oh hz;omega);have hFl:=hF0 q (by omega);rw[show s+1+q+2=s+2+(q+1) by omega,show s+1+q+1=s+2+q by omega]at hat2;rw[hat2];generalize compactR (l.take (s+2+q))=F at *;have gy:((F++l.drop F.length).map reAV)[s+1+q]?=some (reAV y):=by
     rw[getElem?_map,getElem?_append_right (by omega),getElem?_drop,show F.length+(s+1+q-F.length)=s+1+q by omega,hy];rfl
    have gz:((F++l.drop F.length).map reAV)[s+1+(q+1)]?=some (reAV z):=by
     rw[getElem?_map,getElem?_append_right (by omega),getElem?_drop,show F.length+(s+1+(q+1)-F.length)=s+1+q+1 by omega,hz];rfl
    have hrow:(H.set id (.row 8 ((F++l.drop F.length).map reAV) 0))[id]?=some (.row 8 ((F++l.drop F.length).map reAV) 0):=getElem?_set_self hid;have hlen2:((F++l.drop F.length).map reAV).length=n:=by simp;omega
    have hqlt:((q+1:Nat):Int)<((n-(s+1):Nat):Int):=by omega
    have hqlt2:(q:Int)<((n-(s+1):Nat):Int):=by omega
    have hw2:IntKind.i64.wrap (((q+1:Nat):Int)-1)=(q:Int):=by rw[i64_in]<;>omega
    have hFi:((F.length:Nat):Int)<(n:Int):=by omega
    have hFn:F.length<n:=by omega
    by_cases hc2:cmpR z y=0
    ·rw[if_pos hc2];rw[decide_eq_true hc2]at h114;generalize hE:(F++l.drop F.length).map reAV=E at *;simp +contextual (disch:=omega) only[Tryz.f113,Fm,go_sem,simprocAttr,Fb,↓AD,↓AC,↓AB,↓AA,hrow,hlen2,gy,gz,hqlt,hqlt2,hw2,h114,AH,AI,AL];repeat' (first|intro _|apply And.intro|(unfold dOk;kernel_rfl)|exact St.beq_refl _|exact AP|(show altO _ _ _ _=true;kernel_rfl)|(show (_||_)=true;kernel_rfl)|(show (_&&_)=true;kernel_rfl))
     subst hE;exact AR (n:=H.length) rfl rfl (by rfl) (take_of_length_le (by simp)) (by simp[AV.underL,AV.under,hid]) ((hH.set (AG _)).all _)
    ·rw[if_neg hc2];rw[decide_eq_false hc2]at h114;obtain⟨r2,hr2⟩:∃ r2,l[F.length]?=some r2:=⟨_,getElem?_eq_getElem (by omega)⟩;have hget2:((F++l.drop F.length).map reAV)[F.length]?=some (reAV r2):=by
      rw[getElem?_map,getElem?_append_right (le_refl _),getElem?_drop,show F.length+(F.length-F.length)=F.length by omega,hr2];rfl
     have hd2:(reC r2).drop 8=[]:=List.drop_of_length_le (by rw[AH];omega);have hset:((F++l.drop F.length).map reAV).set F.length (reAV z)=((F++[z])++l.drop (F++[z]).length).map reAV:=by
      rw[<- map_set,List.set_append_right _ _ (le_refl _),sub_self];have:l.drop F.length=l[F.length]'(by omega)::l.drop (F.length+1):=List.drop_eq_getElem_cons (by omega);rw[this,List.set_cons_zero,length_append,List.append_assoc];rfl
     have hpE:=AG ((F++[z])++l.drop (F++[z]).length);generalize ((F++[z])++l.drop (F++[z]).length).map reAV=E2 at *;generalize hE:(F++l.drop F.length).map reAV=E at *;simp +contextual (disch:=omega) only[Tryz.f113,Fm,go_sem,simprocAttr,Fb,↓AD,↓AC,↓AB,↓AA,hrow,hlen2,gy,gz,hqlt,hqlt2,hw2,h114,AH,AI,AL,hFi,hFn,hget2,hd2,hset];repeat' (first|intro _|apply And.intro|(unfold dOk;kernel_rfl)|exact St.beq_refl _|exact AP|(show altO _ _ _ _=true;kernel_rfl)|(show (_||_)=true;kernel_rfl)|(show (_&&_)=true;kernel_rfl))
     rw[List.set_set];exact AR (n:=H.length) rfl rfl (by rfl) (take_of_length_le (by simp)) (by simp[AV.underL,AV.under,hid]) ((hH.set hpE).all _)
   ·intro _;rw[show s+2+(n-(s+2))=n by omega,take_of_length_le (by omega)];have hle2:(compactR l).length<=l.length:=Bp _ l (le_refl _);have hx:¬ ((n-(s+2)+1:Nat):Int)<((n-(s+1):Nat):Int):=by omega
    have hmi:((compactR l).length:Int)<=(n:Int):=by omega
    have hrow:(H.set id (.row 8 ((compactR l++l.drop (compactR l).length).map reAV) 0))[id]?=some (.row 8 ((compactR l++l.drop (compactR l).length).map reAV) 0):=getElem?_set_self hid;have hlen3:((compactR l++l.drop (compactR l).length).map reAV).length=n:=by simp;omega
    have htk:((compactR l++l.drop (compactR l).length).map reAV).take (compactR l).length=(compactR l).map reAV:=by
     rw[<- map_take,take_left' rfl]
    have hclr:evClear Pg (H.set id (.row 8 ((compactR l++l.drop (compactR l).length).map reAV) 0)) 24 (.ms id 8 n (compactR l).length (n-(compactR l).length))=some (H.set id (.row 8 ((compactR l).map reAV++zerosR (n-(compactR l).length)) 0)):=by
     unfold evClear;have hg:getRow (H.set id (.row 8 ((compactR l++l.drop (compactR l).length).map reAV) 0)) id=some (8,(compactR l++l.drop (compactR l).length).map reAV,0):=by unfold getRow;rw[hrow]
     have e1:tyElem Pg 24=some 26:=by kernel_rfl
     have e2:tyZero Pg 26=some zeR:=by kernel_rfl
     simp only[hg,e1,e2];rw[if_neg (by omega),if_pos ⟨⟨hlen3,trivial,by omega⟩,⟨by omega,trivial,rfl⟩,rfl⟩,htk,List.set_set];rfl
    generalize (compactR l++l.drop (compactR l).length).map reAV=E at *;simp +contextual (disch:=omega) only[Tryz.f113,Fm,go_sem,simprocAttr,Fb,↓AD,↓AC,↓AB,↓AA,hrow,hlen3,hx,hmi,hclr,hle2];rw[Nat.sub_zero];exact rp _ _ _
   ·rw[add_zero,show s+2=s+1+1 by omega,hat,List.length_take,Nat.min_eq_left (by omega),List.take_append_drop,hsame];exact AR (n:=H.length) rfl rfl (by rfl) take_length (by simp[AV.underL,AV.under,hid]) (hH.all _)
  ·rw[if_neg hc,hinv,<- AX hz]at hat;rw[decide_eq_false hc]at h114;simp +contextual (disch:=omega) only[Tryz.f113,Fm,go_sem,simprocAttr,Fb,↓AD,↓AC,↓AB,↓AA,hr,hlen,gy,gz,hlt,hlt2,hw1,h114,AH,AI,AL];repeat' (first|intro _|apply And.intro|(unfold dOk;kernel_rfl)|exact St.beq_refl _|exact AP|(show altO _ _ _ _=true;kernel_rfl)|(show (_||_)=true;kernel_rfl)|(show (_&&_)=true;kernel_rfl))
   ·exact hat
   ·exact AR (n:=H.length) rfl rfl (by rfl) take_length (by simp[AV.underL,AV.under,hid]) (hH.all _)
 ·intro hinv;rw[show n-1+1=n by omega,take_of_length_le (by omega)]at hinv;rw[hnone hinv,hinv,hn];have hx:¬ ((n-1+1:Nat):Int)<(n:Int):=by omega
  simp +contextual (disch:=omega) only[Tryz.f113,Fm,go_sem,simprocAttr,Fb,↓AD,↓AC,↓AB,↓AA,hx];exact rp _ _ _
 ·match l,hn with
  | [],hn=>simp at hn;omega
  | x::l,_=>simp[compactR]
 ·exact AR (n:=H.length) rfl rfl (by rfl) take_length (by simp[AV.underL,AV.under,hid]) (hH.all _)
end
end Go.Ev
