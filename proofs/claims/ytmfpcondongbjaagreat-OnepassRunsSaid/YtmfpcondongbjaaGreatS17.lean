/- Functions of the program, each with what it computes; no further conditions. -/
import Derived.Test.YtmfpcondongbjaaGreatS07
import Derived.Test.YtmfpcondongbjaaGreatS08
import Derived.Test.YtmfpcondongbjaaGreatS16
import Derived.Test.YtmfpcondongbjaaGreatS15
import Derived.Test.YtmfpcondongbjaaGreatS12
import Derived.Test.YtmfpcondongbjaaGreatS13
import Derived.Test.YtmfpcondongbjaaGreatS14
set_option linter.unusedVariables false
set_option linter.unusedSimpArgs false
namespace Go.Ev
attribute [local go_sem] evBuild evMakeSlice splice
section
attribute [local go_sem] W_block evAppend tySzE List.head?_drop Nat.mul_one sameAt_zero sameAt_two sameAt_three sameAt_four sameAt_five room_ok
open Go.Proofs Go.RowKit Go.IntWalk
set_option maxRecDepth 100000
set_option maxHeartbeats 16000000
def m18:List Int:=List.replicate 18 (-1)
def mat21 (b:Bool) (pos n:Nat):Option (Nat×List Int)→AV
 | none=>.agg [I 0,I 0,.sl b []]
 | some x=>matAV pos x.1 (capsN x.2 n)
abbrev cAV (ins:List Ins) (n:Nat) (num:Int):AV:=.pt [.sl false (ins.map insAV),I n,I num]
structure S21r where
 st:Int
 p:Nat
 regs:List Int
 res:Option (Nat×List Int)
def T21r (ins:List Ins) (n:Nat) (num:Int) (t:List Int) (pos:Nat) (s:S21r):St:=
 (⟨69,[(14,I s.st),(13,NV pos),(12,.bool s.res.isSome),(11,.rf 2 1 0 0),(9,.rf 1 1 0 0),(6,.rf 0 1 0 0),(2,NV s.p),(1,.sl false (t.map I)),(0,cAV ins n num)],[.row 3 [.agg [I 0,I 0,.sl true []]] 0,.row 18 [.agg (s.regs.map I)] 0,.row 3 [mat21 true pos n s.res] 0]⟩:St)
theorem mat21_plain (b:Bool) (pos n:Nat) (r:Option (Nat×List Int)):AV.plain (mat21 false pos n r)=true∧∀ k,AV.under k (mat21 b pos n r)=true:=by
 cases r with
 | none=>exact⟨rfl,fun k=>rfl⟩
 | some x=>
   refine⟨plain_mat _ _ _,fun k=>?_⟩
   have:=underL_plain k _ (plain_span (capsN x.2 n))
   simp[mat21,matAV,AV.under,AV.underL,this]
theorem g21L (c:AV) (hc:AV.plain c=true) (t:List Int) (ht:65536 < t.length) (hb:t.length≤1000000) (a:Int) (H:List MB) :
  call Tryz.prog pol1 21 [c,.sl false (t.map I),I a] H=some (.tup [.agg [I 0,I 0,.sl false []],.bool false,I 4],H):=by
 refine call_run Tryz.func21 rfl rfl rfl rfl rfl rfl (fun _=>rfl) (by simp[AV.plain,AV.plainL,plain_ints,hc]) (by simp[AV.plain,AV.plainL]) ?_ H
 simp +contextual (disch:=omega) only[Tryz.f21,dd21,go_sem,simprocAttr,mu21,↓wrap_up,↓wrap_down,↓wrap_pred,↓wrap_sub_nat]
 exact⟨_,rfl⟩
theorem g21R (c:AV) (hc:AV.plain c=true) (t:List Int) (ht:t.length≤65536) (a:Int) (ha:a < 0∨(t.length:Int) < a) (H:List MB) :
  call Tryz.prog pol1 21 [c,.sl false (t.map I),I a] H=some (.tup [.agg [I 0,I 0,.sl false []],.bool false,I 5],H):=by
 refine call_run Tryz.func21 rfl rfl rfl rfl rfl rfl (fun _=>rfl) (by simp[AV.plain,AV.plainL,plain_ints,hc]) (by simp[AV.plain,AV.plainL]) ?_ H
 by_cases h0:a < 0
 ·simp +contextual (disch:=omega) only[Tryz.f21,dd21,go_sem,simprocAttr,mu21,↓wrap_up,↓wrap_down,↓wrap_pred,↓wrap_sub_nat,h0]
  exact⟨_,rfl⟩
 ·have h1:((t.length:Int) < a)=True:=eq_true (by omega)
  simp +contextual (disch:=omega) only[Tryz.f21,dd21,go_sem,simprocAttr,mu21,↓wrap_up,↓wrap_down,↓wrap_pred,↓wrap_sub_nat,h0,h1]
  exact⟨_,rfl⟩
theorem g21 {ins:List Ins} (h:OkP ins) {Q:Nat→Prop} (hQ:Closed ins Q) (hQ0:Q 0) (n:Nat) (hn:n≤9) (num:Int) (t:List Int) (ht:t.length≤65536) (pos:Nat) (hpos:pos≤t.length) (H:List MB) :
  call Tryz.prog pol1 21 [cAV ins n num,.sl false (t.map I),NV pos] H=some (.tup [mat21 false pos n (runO ins t (t.length+1 - pos) 0 pos m18 none),.bool (runO ins t (t.length+1 - pos) 0 pos m18 none).isSome,I 0],H):=by
 have hil:=h.len
 have hset:∀ i∈ins,i.set.length≤1000000:=fun i hi=>by have:=(h.sets i hi).2;omega
 generalize hR:runO ins t (t.length+1 - pos) 0 pos m18 none=R
 refine call_run Tryz.func21 rfl rfl rfl rfl rfl rfl (fun _=>rfl) (by simp[AV.plain,AV.plainL,plain_ints,plain_ins]) (by simp[AV.plain,AV.plainL,mat21_plain true]) ?_ H
 simp +contextual (disch:=omega) only[Tryz.f21,dd21,go_sem,simprocAttr,mu21,↓wrap_up,↓wrap_down,↓wrap_pred,↓wrap_sub_nat]
 let cur:Nat→List Int:=fun i=>List.replicate i (-1)++List.replicate (18 - i) 0
 have hcl:∀ i,i≤18→(cur i).length=18:=fun i hi=>by simp[cur];omega
 have hc0:[I 0,I 0,I 0,I 0,I 0,I 0,I 0,I 0,I 0,I 0,I 0,I 0,I 0,I 0,I 0,I 0,I 0,I 0]=(cur 0).map I:=rfl
 have hcN:cur 18=m18:=by simp[cur,m18]
 have hstep:∀ i,i < 18→cur (i+1)=(cur i).set i (-1):=fun i hi=>by
  simp only[cur]
  rw[show 18 - i=(18 - (i+1))+1 by omega,List.replicate_succ (a:=(0:Int)),List.set_append_right _ _ (by simp),List.replicate_succ' (a:=(-1:Int))]
  simp
 refine W_count (M:=(mskOf (pol1.mask 21) (pol1.gc 21) (pol1.acts 21) 0 7)) (by rfl) 18 (fun i=>(⟨69,[(32,NV i),(9,.rf 1 1 0 0),(6,.rf 0 1 0 0),(2,NV pos),(1,.sl false (t.map I)),(0,cAV ins n num)],[.row 3 [.agg [I 0,I 0,.sl true []]] 0,.row 18 [.agg ((cur i).map I)] 0]⟩:St)) (fun _=>True) ?_ ?_ trivial _ ?_
 ·intro i hi _
  have hlt:((i:Int) < 18)=True:=eq_true (by omega)
  have hwi:IntKind.i64.wrap ((i:Int)+1)=((i+1:Nat):Int):=by rw[i64_in]<;>omega
  have hcl1:=hcl i (by omega)
  simp +contextual (disch:=omega) only[Tryz.f21,dd21,go_sem,simprocAttr,mu21,↓wrap_up,↓wrap_down,↓wrap_pred,↓wrap_sub_nat,hlt,hwi,nonneg_nat,hcl1]
  rw[hstep i hi,List.map_set,List.set_eq_take_append_cons_drop,if_pos (by simp[hcl1];omega)]
  rfl
 ·intro _
  rw[hcN]
  have hm18:m18.length=18:=rfl
  simp +contextual (disch:=omega) only[Tryz.f21,dd21,go_sem,simprocAttr,mu21,↓wrap_up,↓wrap_down,↓wrap_pred,↓wrap_sub_nat,hm18]
  have hk4:∀ s:S21r,AV.underL 3 [I s.st,NV pos,.bool s.res.isSome,.rf 2 1 0 0,.rf 1 1 0 0,.rf 0 1 0 0,NV s.p,.sl false (t.map I),cAV ins n num]=true:=fun s=>by
   have h1:=underL_plain 3 _ (plain_ints t)
   have h2:=underL_plain 3 _ (plain_ins ins)
   simp[AV.underL,AV.under,h1,h2]
  have hun:∀ s:S21r,[MB.row 3 [.agg [I 0,I 0,.sl true []]] 0,.row 18 [.agg (s.regs.map I)] 0,.row 3 [mat21 true pos n s.res] 0].all (MB.under 3)=true:=fun s=>by
   have h1:=underL_plain 3 _ (plain_ints s.regs)
   have h2:=(mat21_plain true pos n s.res).2 3
   simp[MB.under,AV.underL,AV.under,h1,h2]
  refine W_for (M:=(mskOf (pol1.mask 21) (pol1.gc 21) (pol1.acts 21) 0 15)) (by rfl) (T21r ins n num t pos) (fun s=>s.regs.length=18∧(s.st = -1∨(0≤s.st∧Q s.st.toNat∧s.p≤t.length))∧R=(if s.st < 0 then s.res else runO ins t (t.length+1 - s.p) s.st.toNat s.p s.regs s.res)) (fun s=>if s.st < 0 then 0 else t.length+2 - s.p) ⟨0,pos,m18,none⟩ ?_ ⟨rfl,.inr ⟨Int.le_refl _,hQ0,hpos⟩,hR.symm⟩ _ ?_
  ·rintro⟨st,p,regs,res⟩ ⟨hrl,hst,hr⟩
   simp only at hrl hst hr
   simp only[T21r]
   rcases hst with rfl|⟨hst0,hq,hp⟩
   ·rw[if_pos (by omega)]at hr
    subst hr
    have hneg:(0≤(-1:Int))=False:=by simp
    cases R with
    | none=>
      simp only[mat21]
      simp +contextual (disch:=omega) only[Tryz.f21,dd21,go_sem,simprocAttr,mu21,↓wrap_up,↓wrap_down,↓wrap_pred,↓wrap_sub_nat]
      exact⟨_,rfl⟩
    | some x=>
      simp only[mat21,matAV]
      simp +contextual (disch:=omega) only[Tryz.f21,dd21,go_sem,simprocAttr,mu21,↓wrap_up,↓wrap_down,↓wrap_pred,↓wrap_sub_nat]
      exact⟨_,fz_plain _ (by simp[mat21,matAV,AV.plain,AV.plainL,plain_span])⟩
   ·obtain⟨k,rfl⟩:∃ k:Nat,st=k:=⟨st.toNat,by omega⟩
    simp only[Int.toNat_natCast]at hq hr
    rw[if_neg (by omega)]at hr
    have hk:=hQ.lt k hq
    obtain⟨hrun,hnx⟩:=level h (P:=⟨fun n=>ins[n]?,fun s n=>match t[n]? with
     | some x=>hasSpan s x
     | none=>false,fun _ _=>false⟩) ⟨fun _=>rfl,fun _ _=>rfl⟩ hk (hQ.nf k hq) p regs (by omega)
    obtain⟨hs1,hs2⟩:=runC_len _ _ _ _ hrun (fun w hw=>by simp at hw;subst hw;rfl) ⟨rfl,rfl⟩
    have h44:=fun H=>f44 ins n num t p k (by omega) (by omega) hset h.leads hk (ins.length+1) (by omega) _ hrun H
    have hro:runO ins t (t.length+1 - p) k p regs res=if(chS ins t k p).nx < 0 then(if(chS ins t k p).dn=true then some (p,markL regs (chS ins t k p).la p) else res)
      else runO ins t (t.length - p) (chS ins t k p).nx.toNat (p+1) (markL regs (chS ins t k p).way p) (if(chS ins t k p).dn=true then some (p,markL regs (chS ins t k p).la p) else res):=by
     rw[show t.length+1 - p=(t.length - p)+1 by omega];rfl
    rw[hro]at hr
    have hnext:(chS ins t k p).nx = -1∨(0≤(chS ins t k p).nx∧Q (chS ins t k p).nx.toNat∧p+1≤t.length):=by
     rcases hnx with ⟨e,_⟩|⟨b,x,hx,hl,e,_⟩
     ·exact .inl e
     ·right
      rw[e,Int.toNat_natCast]
      exact⟨by omega,hQ.next k x b hq hl,(List.getElem?_eq_some_iff.1 hx).1⟩
    clear hnx hro
    generalize chS ins t k p=s at *
    have h46a:=fun H=>f46 regs s.way p hrl hs1 H
    have h46b:=fun H=>f46 regs s.la p hrl hs2 H
    have hml:∀ m:List Bool,m.length=18→(markL regs m p).length=18:=fun m hm=>by simp[markL,hrl,hm]
    have h45:=fun H=>f45 ins num pos p (markL regs s.la p) n (hml _ hs2) hn H
    have hge:(0≤(k:Int))=True:=eq_true (by omega)
    have hwi:IntKind.i64.wrap ((p:Int)+1)=((p+1:Nat):Int):=by rw[i64_in]<;>omega
    have w1:=take18 s.way hs1
    have w2:=take18 s.la hs2
    have w3:List.take 18 (regs.map I)=regs.map I:=List.take_of_length_le (by simp[hrl])
    have w4:=ok_bools s.way
    have w5:=ok_bools s.la
    have w6:(regs.map I).all AV.ok=true:=by simp[AV.ok]
    have w7:((markL regs s.way p).map I).all AV.ok=true:=by simp[AV.ok]
    have w8:=hml _ hs1
    have w9:=hml _ hs2
    have w10:(regs.map I).drop 18=[]:=List.drop_of_length_le (by simp[hrl])
    obtain⟨m1,m2,m3,hm⟩:∃ a b c,mat21 true pos n res=.agg [a,b,c]:=by cases res<;>exact⟨_,_,_,rfl⟩
    have hms:∀ x:AV,(match x with | .agg cs=>AV.agg cs|y=>y)=x:=fun x=>by cases x<;>rfl
    have hme:(if s.nx < 0 then 0 else t.length+2 - (p+1)) < (if(k:Int) < 0 then 0 else t.length+2 - p):=by rw[if_neg (show ¬ (k:Int) < 0 by omega)];split<;>omega
    have hle:t.length - p=t.length+1 - (p+1):=by omega
    rw[hle]at hr
    cases hd:s.dn with
    | true=>
      rw[hd]at h44 hr
      simp +contextual (disch:=omega) only[Tryz.f21,dd21,go_sem,simprocAttr,mu21,↓wrap_up,↓wrap_down,↓wrap_pred,↓wrap_sub_nat,h44,h46a,h46b,h45,hge,hwi,w1,w2,w3,w4,w5,w6,w7,w8,w9,w10,hm,hrl,hs1,hs2,matAV,List.append_nil]
      refine⟨⟨s.nx,p+1,markL regs s.way p,some (p,markL regs s.la p)⟩,⟨w8,hnext,by simpa using hr⟩,hme,?_⟩
      exact prep_to rfl rfl (hk4 ⟨s.nx,p+1,markL regs s.way p,some (p,markL regs s.la p)⟩) (hun ⟨s.nx,p+1,markL regs s.way p,some (p,markL regs s.la p)⟩) rfl
    | false=>
      rw[hd]at h44 hr
      simp +contextual (disch:=omega) only[Tryz.f21,dd21,go_sem,simprocAttr,mu21,↓wrap_up,↓wrap_down,↓wrap_pred,↓wrap_sub_nat,h44,h46a,h46b,h45,hge,hwi,w1,w2,w3,w4,w5,w6,w7,w8,w9,w10,hrl,hs1,hs2,List.append_nil]
      refine⟨⟨s.nx,p+1,markL regs s.way p,res⟩,⟨w8,hnext,by simpa using hr⟩,hme,?_⟩
      exact prep_to rfl rfl (hk4 ⟨s.nx,p+1,markL regs s.way p,res⟩) (hun ⟨s.nx,p+1,markL regs s.way p,res⟩) rfl
  ·exact prep_to rfl rfl (hk4 ⟨0,pos,m18,none⟩) (hun ⟨0,pos,m18,none⟩) rfl
 ·rfl
end
section
attribute [local go_sem] W_block tySzE List.head?_drop Nat.mul_one sameAt_zero sameAt_two sameAt_three sameAt_four sameAt_five room_ok
open Go.Proofs Go.RowKit Go.IntWalk
set_option maxRecDepth 100000
set_option maxHeartbeats 16000000
structure RevTo (l m:List Int) (i:Nat):Prop where
 len:m.length=l.length
 low:∀ k,k < i→m[k]?=l[l.length - 1 - k]?
 mid:∀ k,i≤k→k+i < l.length→m[k]?=l[k]?
 high:∀ k,k < l.length→l.length≤k+i→m[k]?=l[l.length - 1 - k]?
theorem RevTo.step {l m:List Int} {i:Nat} (h:RevTo l m i) (hi:i+i+1 < l.length) {x y:Int} (hx:l[i]?=some x) (hy:l[l.length - 1 - i]?=some y):RevTo l ((m.set i y).set (l.length - 1 - i) x) (i+1):=by
 have hl:=h.len
 refine⟨by simp[hl],fun k hk=>?_,fun k hk hk2=>?_,fun k hk hk2=>?_⟩
 ·rw[List.getElem?_set_ne (by omega)]
  rcases Nat.lt_succ_iff_lt_or_eq.1 hk with h1|rfl
  ·rw[List.getElem?_set_ne (by omega)];exact h.low k h1
  ·rw[List.getElem?_set_self (by omega),hy]
 ·rw[List.getElem?_set_ne (by omega),List.getElem?_set_ne (by omega)]
  exact h.mid k (by omega) (by omega)
 ·by_cases e:k=l.length - 1 - i
  ·subst e
   rw[List.getElem?_set_self (by simp;omega),show l.length - 1 - (l.length - 1 - i)=i by omega,hx]
  ·rw[List.getElem?_set_ne (by omega),List.getElem?_set_ne (by omega)]
   exact h.high k hk (by omega)
theorem RevTo.done {l m:List Int} {i:Nat} (h:RevTo l m i) (hi:l.length≤i+i+1):m=l.reverse:=by
 have hl:=h.len
 refine List.ext_getElem? fun k=>?_
 by_cases hk:k < l.length
 ·rw[List.getElem?_reverse hk]
  by_cases h1:k < i
  ·exact h.low k h1
  ·by_cases h2:l.length≤k+i
   ·exact h.high k hk h2
   ·have:l.length - 1 - k=k:=by omega
    rw[this]
    exact h.mid k (by omega) (by omega)
 ·rw[List.getElem?_eq_none (by omega),List.getElem?_eq_none (by simp;omega)]
theorem f39 (g:Prg) (l:List Int) (hl:l.length≤1000000):call Tryz.prog pol1 39 [.ms 1 1 l.length 0 l.length] [.row 3 [prgAV g] 0,.row 1 (l.map I) 0]=some (.tup [],[.row 3 [prgAV g] 0,.row 1 (l.reverse.map I) 0]):=by
 refine call_run2 (pol:=pol1) Tryz.func39 rfl rfl rfl rfl (frzArgs_mix _ _ 0 rfl) ?_
 have hw0:IntKind.i64.wrap (((l.length:Nat):Int) - 1)=((l.length:Nat):Int) - 1:=by rw[i64_in]<;>omega
 simp +contextual (disch:=omega) only[Tryz.f39,dd39,go_sem,simprocAttr,evAppend,mu39,↓wrap_up,↓wrap_down,↓wrap_pred,↓wrap_sub_nat,hw0]
 refine W_for (σ:=Nat×List Int) (M:=(mskOf (pol1.mask 39) (pol1.gc 39) (pol1.acts 39) 0 1)) (by rfl) (fun s=>(⟨28,[(3,I (((l.length:Nat):Int) - 1 - s.1)),(2,NV s.1),(0,.ms 1 1 l.length 0 l.length)],[.row 3 [prgAV g] 0,.row 1 (s.2.map I) 0]⟩:St)) (fun s=>s.1≤l.length∧RevTo l s.2 s.1) (fun s=>l.length - s.1) (0,l) ?_ ⟨Nat.zero_le _,rfl,fun k hk=>by omega,fun k _ _=>rfl,fun k h1 h2=>by omega⟩ _ ?_
 ·rintro⟨i,m⟩ ⟨hi,hR⟩
  simp only at hi hR ⊢
  have hml:=hR.len
  by_cases hlt:i+i+1 < l.length
  ·obtain⟨x,hx⟩:∃ x,l[i]?=some x:=⟨_,List.getElem?_eq_getElem (by omega)⟩
   obtain⟨y,hy⟩:∃ y,l[l.length - 1 - i]?=some y:=⟨_,List.getElem?_eq_getElem (by omega)⟩
   have hx':(m.map I)[i]?=some (I x):=by simp[hR.mid i (Nat.le_refl _) (by omega),hx]
   have hy':(m.map I)[l.length - 1 - i]?=some (I y):=by simp[hR.mid (l.length - 1 - i) (by omega) (by omega),hy]
   have hje:((l.length:Nat):Int) - 1 - (i:Int)=((l.length - 1 - i:Nat):Int):=by omega
   have hc:((i:Int) < ((l.length - 1 - i:Nat):Int))=True:=eq_true (by omega)
   have hb1:((i:Int) < ((l.length:Nat):Int))=True:=eq_true (by omega)
   have hb2:(((l.length - 1 - i:Nat):Int) < ((l.length:Nat):Int))=True:=eq_true (by omega)
   have hwi:IntKind.i64.wrap ((i:Int)+1)=((i+1:Nat):Int):=by rw[i64_in]<;>omega
   have hwj:IntKind.i64.wrap (((l.length - 1 - i:Nat):Int) - 1)=((l.length:Nat):Int) - 1 - ((i+1:Nat):Int):=by rw[i64_in]<;>omega
   have hgs:((m.map I).set i (I y))[l.length - 1 - i]?=some (I y):=by rw[List.getElem?_set_ne (by omega)];exact hy'
   have hsl:((m.map I).set i (I y)).length=l.length:=by simp[hml]
   rw[hje]
   simp +contextual (disch:=omega) only[Tryz.f39,dd39,go_sem,simprocAttr,evAppend,mu39,↓wrap_up,↓wrap_down,↓wrap_pred,↓wrap_sub_nat,hx',hy',hc,hb1,hb2,hwi,hwj,nonneg_nat,hml,hgs,hsl]
   repeat' (first|intro _|apply And.intro|(unfold dOk;kernel_rfl)|exact St.beq_refl _|(show altO _ _ _ _=true;kernel_rfl)|(show (_ || _)=true;kernel_rfl)|(show (_ && _)=true;kernel_rfl))
   refine⟨(i+1,(m.set i y).set (l.length - 1 - i) x),⟨by simp only;omega,hR.step hlt hx hy⟩,by simp only;omega,?_⟩
   simp only[List.map_set]
   rw[show ((l.length:Nat):Int) - 1 - ((i+1:Nat):Int)=((l.length - 1 - i - 1:Nat):Int) by omega]
   rfl
  ·have hc:((i:Int) < ((l.length:Nat):Int) - 1 - (i:Int))=False:=eq_false (by omega)
   simp +contextual (disch:=omega) only[Tryz.f39,dd39,go_sem,simprocAttr,evAppend,mu39,↓wrap_up,↓wrap_down,↓wrap_pred,↓wrap_sub_nat,hc]
   rw[hR.done (by omega)]
   have h1:=underL_plain 2 _ (plain_ints l.reverse)
   refine retPol_keep rfl rfl rfl ?_ rfl
   simp only[keptOk,MB.beq_refl,MB.under,h1,Bool.or_true,Bool.true_or,Bool.and_true,Bool.true_and,List.length_cons,List.length_nil]
 ·rw[show (((l.length:Nat):Int) - 1 - (((0,l):Nat×List Int).1:Int))=((l.length:Nat):Int) - 1 by simp]
  rfl
theorem srch_pos {ins:List Ins} {syms:List Int}:∀(f i:Nat) (ys xs:List RS),srch ins syms f i ys=(xs,true)→0 < xs.length
 | 0,i,ys,xs,h=>by simp[srch]at h
 | f+1,i,ys,xs,h=>by
   unfold srch at h
   split at h
   ·simp at h
   ·rename_i r hr
    split at h
    ·simp only[Prod.mk.injEq,and_true]at h
     rw[← h,List.length_take]
     have:=(List.getElem?_eq_some_iff.1 hr).1
     omega
    ·exact srch_pos f _ _ _ h
def lastTx (xs:List RS):List Int:=match xs[xs.length - 1]? with
 | some r=>r.tx
 | none=>[]
theorem g14 (g:Prg) (hb:PrgB g) (ha:acceptG g=0):∃ r:AV,(∃ xs fk,Explored g.ins xs fk∧r=.tup [.sl false ((if fk then lastTx xs else []).map I),.bool fk,I 0])∧∀ H,call Tryz.prog pol1 14 [prgAV g] H=some (r,H):=by
 have h35:=f35 g hb
 rw[ha]at h35
 have h:=okP_of ha
 obtain⟨_,⟨syms,_,hsy⟩,_⟩:=g40 h
 obtain⟨r36,⟨xs,fk,hex,rfl⟩,h36⟩:=f36 h
 have hxl:=hex.1.len
 have hl:=h.len
 refine call_runA Tryz.func14 rfl rfl rfl rfl rfl rfl (fun _=>rfl) (by simp[AV.plain,AV.plainL,plain_ints,plain_span,plain_ins,plain_prg]) ?_ ?_
 ·rintro r ⟨xs,fk,_,rfl⟩;simp[AV.plain,AV.plainL,plain_ints]
 cases fk with
 | false=>
   simp +contextual (disch:=omega) only[Tryz.f14,dd14,go_sem,simprocAttr,evAppend,mu14,↓wrap_up,↓wrap_down,↓wrap_pred,↓wrap_sub_nat,h35,h36]
   exact⟨_,⟨xs,false,hex,rfl⟩,_,rfl⟩
 | true=>
   have hpos:=srch_pos _ _ _ _ (hex.2 syms hsy)
   have hw0:IntKind.i64.wrap (((xs.length:Nat):Int) - 1)=((xs.length - 1:Nat):Int):=by rw[i64_in]<;>omega
   simp +contextual (disch:=omega) only[Tryz.f14,dd14,go_sem,simprocAttr,evAppend,mu14,↓wrap_up,↓wrap_down,↓wrap_pred,↓wrap_sub_nat,h35,h36,hw0]
   obtain⟨q,hq⟩:∃ q,xs[xs.length - 1]?=some q:=⟨_,List.getElem?_eq_getElem (by omega)⟩
   have hlt:lastTx xs=q.tx:=by simp[lastTx,hq]
   have hqt:=hex.1.txl _ q hq
   have hu:∀ acc:List Int,[MB.row 3 [prgAV g] 0,.row 1 (acc.map I) 0].all (MB.under 2)=true:=fun acc=>by
    have h1:=underL_plain 2 _ (plain_ins g.ins)
    have h2:=underL_plain 2 _ (plain_ints acc)
    simp[MB.under,AV.underL,AV.under,h1,h2]
   have hk9:∀(j:Int) (n:Nat),AV.underL 2 [.int .i64 j,.ms 1 1 n 0 n,.sl false (xs.map rsAV)]=true:=fun j n=>by
    have:=underL_plain 2 _ (plain_rs xs)
    simp[AV.underL,AV.under,this]
   refine W_for (σ:=Nat×List Int) (M:=(mskOf (pol1.mask 14) (pol1.gc 14) (pol1.acts 14) 0 9)) (by rfl) (fun s=>(⟨48,[(9,NV s.1),(8,.ms 1 1 s.2.length 0 s.2.length),(6,.sl false (xs.map rsAV))],[.row 3 [prgAV g] 0,.row 1 (s.2.map I) 0]⟩:St)) (fun s=>∃ r,xs[s.1]?=some r∧s.2++r.tx.reverse=q.tx.reverse) (fun s=>s.1) (xs.length - 1,[]) ?_ ⟨q,hq,rfl⟩ _ ?_
   ·rintro⟨j,acc⟩ ⟨r,hr,hacc⟩
    simp only at hr hacc ⊢
    have hr':(xs.map rsAV)[j]?=some (rsAV r):=by simp[hr]
    have hjl:=(List.getElem?_eq_some_iff.1 hr).1
    have hltj:((j:Int) < ((xs.length:Nat):Int))=True:=eq_true (by omega)
    have hal:acc.length≤100000:=by
     have:=congrArg List.length hacc
     simp at this
     omega
    rcases hex.1.bk j r hr with ⟨h1,h2⟩|⟨k,r2,h1,h2,h3,h4⟩
    ·rw[h2,List.reverse_nil,List.append_nil]at hacc
     have h39:=f39 g acc (by omega)
     simp +contextual (disch:=omega) only[Tryz.f14,dd14,go_sem,simprocAttr,evAppend,mu14,↓wrap_up,↓wrap_down,↓wrap_pred,↓wrap_sub_nat,hr',hltj,nonneg_nat,h1,h39]
     refine⟨_,⟨xs,true,hex,rfl⟩,?_⟩
     rw[if_pos rfl,hlt]
     have he:acc.reverse=q.tx:=by rw[hacc,List.reverse_reverse]
     have h2:fzA (fzJ 6) (.ms 1 1 acc.length 0 acc.length) [.row 3 [prgAV g] 0,.row 1 (acc.reverse.map I) 0]=some (.sl false (acc.reverse.map I),_):=fzA_row (n:=5) rfl (by simp) (plain_ints _)
     refine⟨mark [.row 3 [prgAV g] 0,.row 1 (acc.reverse.map I) 0] 1 acc.length,?_⟩
     rw[← he]
     simp only[fz,fzA_tup,fzL,h2]
     rfl
    ·have ap:=fun(t:Bool)=>appI (H:=[MB.row 3 [prgAV g] 0,.row 1 (acc.map I) 0]) (i:=1) (n:=acc.length) (rs:=acc) (l:=[r.sy]) (t:=t) rfl rfl (by simp;omega)
     simp only[List.set,List.map_append,List.map_cons,List.map_nil,List.length_cons,List.length_nil,Nat.zero_add]at ap
     have hge:((0:Int)≤((k:Nat):Int))=True:=eq_true (by omega)
     simp +contextual (disch:=omega) only[Tryz.f14,dd14,go_sem,simprocAttr,mu14,↓wrap_up,↓wrap_down,↓wrap_pred,↓wrap_sub_nat,hr',hltj,nonneg_nat,h2,hge,ap]
     have hun:=hu (acc++[r.sy])
     simp only[List.map_append,List.map_cons,List.map_nil]at hun
     refine⟨(k,acc++[r.sy]),⟨r2,h3,?_⟩,h1,?_⟩
     ·simp only
      rw[h4]at hacc
      rw[← hacc]
      simp
     ·simp only[List.map_append,List.map_cons,List.map_nil,List.length_append,List.length_cons,List.length_nil,Nat.zero_add]
      exact prep_to rfl rfl (hk9 _ _) hun rfl
   ·exact prep_to rfl rfl (hk9 _ 0) (hu []) rfl
end
section
attribute [local go_sem] W_block evAppend tySzE List.head?_drop Nat.mul_one sameAt_zero sameAt_two sameAt_three sameAt_four sameAt_five room_ok
open Go.Proofs Go.RowKit Go.IntWalk
set_option maxRecDepth 100000
set_option maxHeartbeats 16000000
theorem f38 (l:List (Int×Int)) (hl:l.length≤1000000) (x y:MB):call Tryz.prog pol1 38 [.sl false (l.map spanAV)] [x,y]=some (.sl false (l.map spanAV),[x,y]):=by
 rw[call_eq]
 unfold evStep
 rw[if_neg (show ¬ pol1.pure 38=true by decide),if_neg (by decide)]
 show cloneExt 2 16 [.sl false (l.map spanAV)] [x,y]=_
 have h1:((l.map spanAV).all fun y=>decide (y.cells.length=2) && y.cells.all AV.ok)=true:=by
  rw[List.all_eq_true]
  intro y hy
  obtain⟨p,_,rfl⟩:=List.mem_map.1 hy
  rfl
 have h2:roomFor (l.map spanAV).length 16=true:=room_ok (by simp;omega) (by omega)
 unfold cloneExt
 simp only[elemsOf]
 rw[if_pos ⟨h1,h2,plain_span l⟩]
theorem f37 (l:List Ins) (hl:0 < l.length∧l.length≤1000000) (K:List MB):call Tryz.prog pol1 37 [.sl false (l.map insAV)] K=some (.ms K.length 5 l.length 0 l.length,K++[.row 5 (l.map insAV) 0]):=by
 rw[call_eq]
 unfold evStep
 rw[if_neg (show ¬ pol1.pure 37=true by decide),if_neg (by decide)]
 show cloneExtO 5 56 [.sl false (l.map insAV)] K=_
 have h1:((l.map insAV).all fun y=>decide (y.cells.length=5) && y.cells.all AV.ok)=true:=by
  rw[List.all_eq_true]
  intro y hy
  obtain⟨p,_,rfl⟩:=List.mem_map.1 hy
  rfl
 have h2:roomFor (l.map insAV).length 56=true:=room_ok (by simp;omega) (by omega)
 unfold cloneExtO
 simp only[elemsOf]
 rw[if_pos ⟨h1,h2⟩]
 cases l with
 | nil=>simp at hl
 | cons y ys=>simp
theorem g12_bad (g:Prg) (hb:PrgB g) (ha:acceptG g≠0) (H:List MB):call Tryz.prog pol1 12 [prgAV g] H=some (.tup [.nilp,I (acceptG g)],H):=by
 have h35:=f35 g hb
 refine call_run Tryz.func12 rfl rfl rfl rfl rfl rfl (fun _=>rfl) (by simp[AV.plain,AV.plainL,plain_ints,plain_span,plain_ins,plain_prg]) (by simp[AV.plain,AV.plainL,plain_ints,plain_span,plain_ins,plain_prg]) ?_ H
 simp +contextual (disch:=omega) only[Tryz.f12,dd12,go_sem,simprocAttr,mu12,↓wrap_up,↓wrap_down,↓wrap_pred,↓wrap_sub_nat,h35,ha]
 exact⟨_,rfl⟩
theorem g12 (g:Prg) (hb:PrgB g) (ha:acceptG g=0):∃ r:AV,(∃ xs fk,Explored g.ins xs fk∧r=if fk=true then .tup [.nilp,I 10] else .tup [.pt [.sl false (g.ins.map insAV),I g.caps,NV xs.length],I 0])∧∀ H,call Tryz.prog pol1 12 [prgAV g] H=some (r,H):=by
 have h35:=f35 g hb
 rw[ha]at h35
 have h:=okP_of ha
 have hl:=h.len
 obtain⟨r36,⟨xs,fk,hex,rfl⟩,h36⟩:=f36 h
 have h37:=f37 g.ins ⟨h.pos,by omega⟩
 refine call_runA Tryz.func12 rfl rfl rfl rfl rfl rfl (fun _=>rfl) (by simp[AV.plain,AV.plainL,plain_ints,plain_span,plain_ins,plain_prg]) ?_ ?_
 ·rintro r ⟨xs,fk,_,rfl⟩
  split
  ·rfl
  ·simp[AV.plain,AV.plainL,plain_ins]
 cases fk with
 | true=>
   simp +contextual (disch:=omega) only[Tryz.f12,dd12,go_sem,simprocAttr,mu12,↓wrap_up,↓wrap_down,↓wrap_pred,↓wrap_sub_nat,h35,h36]
   exact⟨_,⟨xs,true,hex,rfl⟩,_,rfl⟩
 | false=>
   simp +contextual (disch:=omega) only[Tryz.f12,dd12,go_sem,simprocAttr,mu12,↓wrap_up,↓wrap_down,↓wrap_pred,↓wrap_sub_nat,h35,h36,h37]
   refine W_count (M:=(mskOf (pol1.mask 12) (pol1.gc 12) (pol1.acts 12) 0 9)) (by rfl) g.ins.length (fun i=>(⟨47,[(26,NV i),(25,NV g.ins.length),(7,.ms 1 5 g.ins.length 0 g.ins.length),(5,.sl false (xs.map rsAV)),(1,.rf 0 1 0 0)],[.row 3 [prgAV g] 0,.row 5 (g.ins.map insAV) 0]⟩:St)) (fun _=>True) ?_ ?_ trivial _ ?_
   ·intro i hi _
    obtain⟨p,hp⟩:∃ p,g.ins[i]?=some p:=⟨_,List.getElem?_eq_getElem hi⟩
    have hp':(g.ins.map insAV)[i]?=some (insAV p):=by simp[hp]
    have hset:(g.ins.map insAV).set i (insAV p)=g.ins.map insAV:=by
     apply List.ext_getElem?
     intro q
     by_cases e:i=q
     ·subst e;rw[List.getElem?_set_self (by simpa using hi),hp']
     ·rw[List.getElem?_set_ne e]
    have hc29:=fun x y:MB=>f38 p.set (hb.2 p (List.mem_of_getElem? hp)) x y
    have hlt:((i:Int) < ((g.ins.length:Nat):Int))=True:=eq_true (by omega)
    have hwi:IntKind.i64.wrap ((i:Int)+1)=((i+1:Nat):Int):=by rw[i64_in]<;>omega
    simp +contextual (disch:=omega) only[Tryz.f12,dd12,go_sem,simprocAttr,mu12,↓wrap_up,↓wrap_down,↓wrap_pred,↓wrap_sub_nat,hp',hc29,hset,hlt,hwi,nonneg_nat]
    rfl
   ·intro _
    simp +contextual (disch:=omega) only[Tryz.f12,dd12,go_sem,simprocAttr,mu12,↓wrap_up,↓wrap_down,↓wrap_pred,↓wrap_sub_nat]
    have h1:fzA (fzJ 5) (.ms 1 5 g.ins.length 0 g.ins.length) [.row 3 [prgAV g] 0,.row 5 (g.ins.map insAV) 0,.row 3 [.agg [.ms 1 5 g.ins.length 0 g.ins.length,I g.caps,NV xs.length]] 1]=some (.sl false (g.ins.map insAV),_):=fzA_row (n:=4) rfl (by simp) (plain_ins _)
    have h2:fzA (fzJ 6) (.rf 2 1 0 0) [.row 3 [prgAV g] 0,.row 5 (g.ins.map insAV) 0,.row 3 [.agg [.ms 1 5 g.ins.length 0 g.ins.length,I g.caps,NV xs.length]] 0]=some (.pt [.sl false (g.ins.map insAV),I g.caps,NV xs.length],mark [.row 3 [prgAV g] 0,.row 5 (g.ins.map insAV) 0,.row 3 [.agg [.ms 1 5 g.ins.length 0 g.ins.length,I g.caps,NV xs.length]] 1] 1 g.ins.length):=by
     show (match fzL (fzJ 5) [.ms 1 5 g.ins.length 0 g.ins.length,I g.caps,NV xs.length] [.row 3 [prgAV g] 0,.row 5 (g.ins.map insAV) 0,.row 3 [.agg [.ms 1 5 g.ins.length 0 g.ins.length,I g.caps,NV xs.length]] 1] with
      | some (ys,H')=>some (AV.pt ys,H')
      | none=>none)=_
     simp only[fzL,h1,fzA_int]
    refine⟨_,⟨xs,false,hex,rfl⟩,mark [.row 3 [prgAV g] 0,.row 5 (g.ins.map insAV) 0,.row 3 [.agg [.ms 1 5 g.ins.length 0 g.ins.length,I g.caps,NV xs.length]] 1] 1 g.ins.length,?_⟩
    simp only[fz,fzA_tup,fzL,h2,fzA_int]
    rfl
   ·rfl
end
section
attribute [local go_sem] W_block evAppend tySzE List.head?_drop Nat.mul_one sameAt_zero sameAt_two sameAt_three sameAt_four sameAt_five room_ok
open Go.Proofs Go.RowKit Go.IntWalk
set_option maxRecDepth 100000
set_option maxHeartbeats 16000000
def disAll:List (Int×Int)→Bool
 | []=>true
 | p::l=>l.all (fun q=>decide (p.2 < q.1) || decide (q.2 < p.1)) && disAll l
theorem disAll_iff:∀ l:List (Int×Int),disAll l=true↔l.Pairwise DisS
 | []=>by simp[disAll]
 | p::l=>by
   simp only[disAll,Bool.and_eq_true,List.all_eq_true,Bool.or_eq_true,decide_eq_true_eq,List.pairwise_cons,disAll_iff l]
   rfl
def forkB (ins:List Ins) (st:Nat):Bool:=(fromS ins st).tw || (decide (1 < (exS ins st).dn) || !disAll (exS ins st).sp)
theorem forkB_iff (ins:List Ins) (st:Nat):forkB ins st=true↔ForkS ins st:=by
 unfold forkB ForkS
 rw[← disAll_iff]
 simp
def srchB (ins:List Ins) (syms:List Int):Nat→Nat→List RS→List RS×Bool
 | 0,_,xs=>(xs,false)
 | f+1,i,xs=>match xs[i]? with
   | none=>(xs,false)
   | some r=>if forkB ins r.st=true then(xs.take (i+1),true) else srchB ins syms f (i+1) (syms.foldl (addS ins i r) xs)
theorem srchB_eq (ins:List Ins) (syms:List Int):∀(f i:Nat) (xs:List RS),srchB ins syms f i xs=srch ins syms f i xs
 | 0,i,xs=>rfl
 | f+1,i,xs=>by
   unfold srchB srch
   cases xs[i]? with
   | none=>rfl
   | some r=>
     simp only
     by_cases h:forkB ins r.st=true
     ·rw[if_pos h,if_pos ((forkB_iff _ _).1 h)]
     ·rw[if_neg h,if_neg fun hf=>h ((forkB_iff _ _).2 hf)]
      exact srchB_eq ins syms f (i+1) _
def thenP (c:Int):Prg:=⟨[⟨2,1,3,0,[]⟩,⟨1,0,0,0,[(97,97)]⟩,⟨3,0,0,0,[]⟩,⟨1,0,0,0,[(c,c)]⟩,⟨0,0,0,0,[]⟩],0,false⟩
def bothP:Prg:=⟨[⟨1,0,0,0,[(98,98)]⟩,⟨2,2,4,0,[]⟩,⟨1,0,0,0,[(97,97)]⟩,⟨3,6,0,0,[]⟩,⟨1,0,0,0,[(97,97)]⟩,⟨1,0,0,0,[(98,98)]⟩,⟨0,0,0,0,[]⟩],0,false⟩
noncomputable def polV:Pol:={ pol0 with pure:=fun f=>!(12::14::notPure).contains f,ext:=fun f=>if f=54 then none else if f=12 then some (call Tryz.prog pol1 12) else if f=14 then some (call Tryz.prog pol1 14) else pol0.ext f,muts:=fun f=>if f=42 then [1000012,1000016] else if f=19 then [1000090,1000095] else if f=44 then [3000000] else pol0.muts f }
theorem srB:srch (thenP 98).ins [97,98] 6 0 xs0=([⟨0,-1,0,[]⟩,⟨2,0,97,[97]⟩,⟨4,0,98,[98]⟩],false):=by
 rw[← srchB_eq]
 rfl
theorem srA:∃ xs,srch (thenP 97).ins [97] 6 0 xs0=(xs,true)∧lastTx xs=[]:=by
 refine⟨[⟨0,-1,0,[]⟩],?_,rfl⟩
 rw[← srchB_eq]
 rfl
theorem srP:∃ xs,srch bothP.ins [97,98] 8 0 xs0=(xs,true)∧lastTx xs=[98]:=by
 refine⟨[⟨0,-1,0,[]⟩,⟨1,0,98,[98]⟩],?_,rfl⟩
 rw[← srchB_eq]
 rfl
theorem least_of {ins:List Ins} {l:List Int} (h1:l.Pairwise (·< ·)) (h2:l.length≤ins.length) (h3:(List.range ins.length).all (fun n=>match ins[n]? with
  | some x=>!(decide (x.op=1) && decide (0 < x.set.length)) || l.contains (keyI ins n)
  | none=>true)=true):LeastTo ins ins.length l:=by
 refine⟨h1,fun n x hn hx ho hs=>?_,h2⟩
 have:=List.all_eq_true.1 h3 n (List.mem_range.2 hn)
 simp only[hx,ho,hs,decide_true,Bool.and_self,Bool.not_true,Bool.false_or]at this
 simpa using this
theorem lsB:LeastTo (thenP 98).ins (thenP 98).ins.length [97,98]:=least_of (by simp) (by decide) (by decide)
theorem lsA:LeastTo (thenP 97).ins (thenP 97).ins.length [97]:=least_of (by simp) (by decide) (by decide)
theorem lsP:LeastTo bothP.ins bothP.ins.length [97,98]:=least_of (by simp) (by decide) (by decide)
theorem prgB_small {g:Prg} (h:g.ins.all (fun i=>decide (i.set.length≤1))=true) (h2:g.ins.length≤20):PrgB g:=⟨by omega,fun i hi=>by
 have:=List.all_eq_true.1 h i hi
 simp at this
 omega⟩
theorem c12b:∀ H,call Tryz.prog pol1 12 [prgAV (thenP 98)] H=some (.tup [.pt [.sl false ((thenP 98).ins.map insAV),I 0,I 3],I 0],H):=by
 obtain⟨r,⟨xs,fk,hex,rfl⟩,h⟩:=g12 (thenP 98) (prgB_small (by decide) (by decide)) (by decide)
 have:=hex.2 _ lsB
 rw[show (thenP 98).ins.length+1=6 from rfl,srB]at this
 simp only[Prod.mk.injEq]at this
 obtain⟨rfl,rfl⟩:=this
 exact h
theorem c12a:∀ H,call Tryz.prog pol1 12 [prgAV (thenP 97)] H=some (.tup [.nilp,I 10],H):=by
 obtain⟨r,⟨xs,fk,hex,rfl⟩,h⟩:=g12 (thenP 97) (prgB_small (by decide) (by decide)) (by decide)
 obtain⟨ys,e1,e2⟩:=srA
 have:=hex.2 _ lsA
 rw[show (thenP 97).ins.length+1=6 from rfl,e1]at this
 simp only[Prod.mk.injEq]at this
 obtain⟨rfl,rfl⟩:=this
 exact h
theorem c14a:∀ H,call Tryz.prog pol1 14 [prgAV (thenP 97)] H=some (.tup [.sl false [],.bool true,I 0],H):=by
 obtain⟨r,⟨xs,fk,hex,rfl⟩,h⟩:=g14 (thenP 97) (prgB_small (by decide) (by decide)) (by decide)
 obtain⟨ys,e1,e2⟩:=srA
 have:=hex.2 _ lsA
 rw[show (thenP 97).ins.length+1=6 from rfl,e1]at this
 simp only[Prod.mk.injEq]at this
 obtain⟨rfl,rfl⟩:=this
 rw[e2]at h
 exact h
theorem c14p:∀ H,call Tryz.prog pol1 14 [prgAV bothP] H=some (.tup [.sl false [I 98],.bool true,I 0],H):=by
 obtain⟨r,⟨xs,fk,hex,rfl⟩,h⟩:=g14 bothP (prgB_small (by decide) (by decide)) (by decide)
 obtain⟨ys,e1,e2⟩:=srP
 have:=hex.2 _ lsP
 rw[show bothP.ins.length+1=8 from rfl,e1]at this
 simp only[Prod.mk.injEq]at this
 obtain⟨rfl,rfl⟩:=this
 rw[e2]at h
 exact h
end
section
attribute [local go_sem] W_block evAppend tySzE List.head?_drop Nat.mul_one sameAt_zero sameAt_two sameAt_three sameAt_four sameAt_five room_ok
open Go.Proofs Go.RowKit Go.IntWalk
set_option maxRecDepth 100000
set_option maxHeartbeats 16000000
abbrev cB:AV:=.pt [.sl false ((thenP 98).ins.map insAV),I 0,I 3]
abbrev args44 (x:Nat×Nat×List Int):List AV:=[cB,NV x.1,.sl false (x.2.2.map I),NV x.2.1]
def res44 (x:Nat×Nat×List Int):AV:=match runS (thenP 98).ins enC (yiC (thenP 98).ins x.2.2 x.2.1) 20 [(x.1,m0S)] CS0 with
 | some sF=>.tup [I sF.nx,.agg (sF.way.map AV.bool),.bool sF.dn,.agg (sF.la.map AV.bool)]
 | none=>.top
def tab44:List (Nat×Nat×List Int):=[(0,0,[97,97,98,98]),(2,1,[97,97,98,98]),(2,2,[97,97,98,98]),(4,3,[97,97,98,98]),(0,0,[97,97]),(2,1,[97,97]),(2,2,[97,97])]
def ext44 (args:List AV) (H:List MB):Option (AV×List MB):=match tab44.find? (fun x=>AV.beqL args (args44 x)) with
 | some x=>some (res44 x,H)
 | none=>none
theorem leadsB:LeadsR (thenP 98).ins:=(okP_of (g:=thenP 98) (by decide)).leads
theorem ext44_sound {args:List AV} {H H':List MB} {r:AV} (h:ext44 args H=some (r,H')):CallSound Tryz.prog 44 args H r H':=by
 unfold ext44 at h
 split at h
 ·rename_i x hx
  simp only[Option.some.injEq,Prod.mk.injEq]at h
  obtain⟨rfl,rfl⟩:=h
  obtain rfl:=AV.eq_of_beqL _ _ (by simpa using List.find?_some hx)
  have hm:=List.mem_of_find?_eq_some hx
  have hset:∀ i∈(thenP 98).ins,i.set.length≤1000000:=(prgB_small (g:=thenP 98) (by decide) (by decide)).2
  have key:∀ x∈tab44,(∃ sF,runS (thenP 98).ins enC (yiC (thenP 98).ins x.2.2 x.2.1) 20 [(x.1,m0S)] CS0=some sF)∧x.1 < 5∧x.2.2.length≤10:=by
   intro x hx
   simp only[tab44,List.mem_cons,List.not_mem_nil,or_false]at hx
   rcases hx with rfl|rfl|rfl|rfl|rfl|rfl|rfl<;>exact⟨⟨_,rfl⟩,by decide,by decide⟩
  obtain⟨⟨sF,hs⟩,h1,h2⟩:=key x hm
  have:=f44 (thenP 98).ins 0 3 x.2.2 x.2.1 x.1 (by decide) (by omega) hset leadsB h1 20 (by omega) sF hs H
  have hr:res44 x=.tup [I sF.nx,.agg (sF.way.map AV.bool),.bool sF.dn,.agg (sF.la.map AV.bool)]:=by unfold res44;rw[hs]
  rw[hr]
  exact ok1.1 _ _ _ _ _ (by decide) this
 ·cases h
noncomputable def polU:Pol:={ polV with pure:=fun f=>!(44::12::14::notPure).contains f,ext:=fun f=>if f=44 then some ext44 else polV.ext f }
theorem u42b (H:List MB):call Tryz.prog polU 42 [I 98] H=some (prgAV (thenP 98),H):=call_of_evF (n:=60) 20 42 _ _ _ (by kernel_rfl)
theorem u42a (H:List MB):call Tryz.prog polU 42 [I 97] H=some (prgAV (thenP 97),H):=call_of_evF (n:=60) 20 42 _ _ _ (by kernel_rfl)
theorem u21b (H:List MB):call Tryz.prog polU 21 [cB,.sl false [I 97,I 97,I 98,I 98],I 0] H=some (.tup [.agg [I 0,I 3,.sl false []],.bool true,I 0],H):=call_of_evF (n:=60) 20 21 _ _ _ (by kernel_rfl)
theorem u21n (H:List MB):call Tryz.prog polU 21 [cB,.sl false [I 97,I 97],I 0] H=some (.tup [.agg [I 0,I 0,.sl false []],.bool false,I 0],H):=call_of_evF (n:=60) 20 21 _ _ _ (by kernel_rfl)
theorem u17 (H:List MB):call Tryz.prog polU 17 [cB] H=some (I 3,H):=call_of_evF (n:=60) 20 17 _ _ _ (by kernel_rfl)
theorem u18 (H:List MB):call Tryz.prog polU 18 [.sl false [I 98],.sl false [I 98]] H=some (.bool true,H):=call_of_evF (n:=60) 20 18 _ _ _ (by kernel_rfl)
end
section
attribute [local go_sem] W_block evAppend tySzE List.head?_drop Nat.mul_one sameAt_zero sameAt_two sameAt_three sameAt_four sameAt_five room_ok
open Go.Proofs Go.RowKit Go.IntWalk
set_option maxRecDepth 100000
set_option maxHeartbeats 16000000
theorem polU_dead:polU.dead=pol1.dead:=rfl
theorem polU_bdead:polU.bdead=pol1.bdead:=rfl
theorem polU_racts:polU.racts=pol1.racts:=rfl
theorem polU_muts:polU.muts 19=[1000090,1000095]:=rfl
theorem polU_alts:polU.alts=pol1.alts:=rfl
theorem u12b (H:List MB):call Tryz.prog polU 12 [prgAV (thenP 98)] H=some (.tup [cB,I 0],H):=by
 rw[call_eq]
 unfold evStep
 rw[if_neg (show ¬ polU.pure 12=true by decide),if_neg (by decide)]
 exact c12b H
theorem u12a (H:List MB):call Tryz.prog polU 12 [prgAV (thenP 97)] H=some (.tup [.nilp,I 10],H):=by
 rw[call_eq]
 unfold evStep
 rw[if_neg (show ¬ polU.pure 12=true by decide),if_neg (by decide)]
 exact c12a H
theorem u14a (H:List MB):call Tryz.prog polU 14 [prgAV (thenP 97)] H=some (.tup [.sl false [],.bool true,I 0],H):=by
 rw[call_eq]
 unfold evStep
 rw[if_neg (show ¬ polU.pure 14=true by decide),if_neg (by decide)]
 exact c14a H
theorem u14p (H:List MB):call Tryz.prog polU 14 [prgAV bothP] H=some (.tup [.sl false [I 98],.bool true,I 0],H):=by
 rw[call_eq]
 unfold evStep
 rw[if_neg (show ¬ polU.pure 14=true by decide),if_neg (by decide)]
 exact c14p H
abbrev reSl (c:Int):List AV:=[I 1,.sl false [spanAV (c,c)],.sl false [],I 0,I 0,I 0,I 0,.bool false]
abbrev reB:List AV:=[I 3,.sl false [],.sl false [.agg (reSl 97),.agg [I 2,.sl false [],.sl false [.agg (reSl 97),.agg (reSl 98)],I 0,I 0,I 0,I 0,.bool false]],I 0,I 0,I 0,I 0,.bool false]
abbrev reP:List AV:=[I 2,.sl false [],.sl false [.agg (reSl 98),.agg reB],I 0,I 0,I 0,I 0,.bool false]
theorem u43a (H:List MB):call Tryz.prog polU 43 [I 97] H=some (.agg (reSl 97),H):=call_of_evF (n:=60) 20 43 _ _ _ (by kernel_rfl)
theorem u43b (H:List MB):call Tryz.prog polU 43 [I 98] H=some (.agg (reSl 98),H):=call_of_evF (n:=60) 20 43 _ _ _ (by kernel_rfl)
theorem u25 (H:List MB):call Tryz.prog polU 25 [.agg (reP++[I 0,.bool false])] H=some (.tup [prgAV bothP,I 0],H):=call_of_evF (n:=60) 20 25 _ _ _ (by kernel_rfl)
theorem u21bt (H:List MB):call Tryz.prog polU 21 [cB,.sl true [I 97,I 97,I 98,I 98],I 0] H=some (.tup [.agg [I 0,I 3,.sl false []],.bool true,I 0],H):=by
 rw[call_frzP (l:=[cB,.sl false [I 97,I 97,I 98,I 98],I 0]) (H1:=H) rfl rfl rfl];exact u21b H
theorem u21nt (H:List MB):call Tryz.prog polU 21 [cB,.sl true [I 97,I 97],I 0] H=some (.tup [.agg [I 0,I 0,.sl false []],.bool false,I 0],H):=by
 rw[call_frzP (l:=[cB,.sl false [I 97,I 97],I 0]) (H1:=H) rfl rfl rfl];exact u21n H
theorem u18t (H:List MB):call Tryz.prog polU 18 [.sl false [I 98],.sl true [I 98]] H=some (.bool true,H):=by
 rw[call_frzP (l:=[.sl false [I 98],.sl false [I 98]]) (H1:=H) rfl rfl rfl];exact u18 H
abbrev reT:AV:=.agg [.int .i64 2,.sl true [],.sl true [.agg (reSl 98),.agg [.int .i64 3,.sl true [],.sl true [.agg (reSl 97),.agg [.int .i64 2,.sl true [],.sl true [.agg (reSl 97),.agg (reSl 98)],.int .i64 0,.int .i64 0,.int .i64 0,.int .i64 0,.bool false]],.int .i64 0,.int .i64 0,.int .i64 0,.int .i64 0,.bool false]],.int .i64 0,.int .i64 0,.int .i64 0,.int .i64 0,.bool false,.int .i64 0,.bool false]
theorem u25t (H:List MB):call Tryz.prog polU 25 [reT] H=some (.tup [prgAV bothP,I 0],H):=by
 rw[call_frzP (l:=[.agg (reP++[I 0,.bool false])]) (H1:=H) rfl rfl rfl];exact u25 H
theorem u19 (H:List MB):call Tryz.prog polU 19 [] H=some (.bool true,H):=by
 have e1:=u12b
 have e2:=u12a
 have e3:=u14a
 have e4:=u21bt
 have e5:=u21nt
 have e6:=u17
 have e7:=u43a
 have e8:=u43b
 have e9:=u14p
 have e10:=u18t
 have e11:=u42b
 have e12:=u42a
 have hnp:ofK (Value.pointer none)=.nilp:=rfl
 have a43:=fun H=>evAlone_of (cf:=call Tryz.prog polU) u43b rfl rfl H
 have a25:=fun H=>evAlone_of (cf:=call Tryz.prog polU) u25t rfl rfl H
 refine call_run Tryz.func19 rfl rfl rfl rfl rfl rfl (fun _=>rfl) (by simp[AV.plain,AV.plainL,plain_ints,plain_span,plain_ins,plain_prg]) (by simp[AV.plain,AV.plainL,plain_ints,plain_span,plain_ins,plain_prg]) ?_ H
 simp +contextual (disch:=omega) only[Tryz.f19,dd19,go_sem,simprocAttr,mu19,↓wrap_up,↓wrap_down,↓wrap_pred,↓wrap_sub_nat,polU_dead,polU_bdead,polU_racts,polU_muts,polU_alts,e11,e12,e1,e2,e3,hnp,e4,e5,e6,e7,e8,a43,a25,e9,e10]
 repeat' (first|intro _|apply And.intro|(unfold dOk;kernel_rfl)|exact St.beq_refl _|(show altO _ _ _ _=true;kernel_rfl)|(show (_ || _)=true;kernel_rfl)|(show (_ && _)=true;kernel_rfl))
 exact⟨_,rfl⟩
theorem extU:ExtOk Tryz.prog polU:=by
 intro f g hg args H r H' h
 by_cases e:f=44
 ·subst e
  have:polU.ext 44=some ext44:=rfl
  rw[this]at hg
  obtain rfl:=Option.some.inj hg
  exact ext44_sound h
 by_cases e1:f=12
 ·subst e1
  have:polU.ext 12=some (call Tryz.prog pol1 12):=rfl
  rw[this]at hg
  obtain rfl:=Option.some.inj hg
  exact ok1.1 12 args H r H' (by decide) h
 by_cases e2:f=14
 ·subst e2
  have:polU.ext 14=some (call Tryz.prog pol1 14):=rfl
  rw[this]at hg
  obtain rfl:=Option.some.inj hg
  exact ok1.1 14 args H r H' (by decide) h
 by_cases e3:f=54
 ·subst e3
  have:polU.ext 54=none:=rfl
  rw[this]at hg
  cases hg
 have:polU.ext f=pol0.ext f:=by
  show (if f=44 then some ext44 else if f=54 then none else if f=12 then some (call Tryz.prog pol1 12) else if f=14 then some (call Tryz.prog pol1 14) else pol0.ext f)=_
  rw[if_neg e,if_neg e3,if_neg e1,if_neg e2]
 rw[this]at hg
 exact ext0 f g hg args H r H' h
theorem okU:CfOk Tryz.prog (call Tryz.prog polU):=call_ok extU follows1
end
end Go.Ev
namespace Go.Ev
open Go.Proofs Go.RowKit Go.IntWalk
set_option maxRecDepth 100000
set_option maxHeartbeats 4000000
def aroundI (n m:Int):Int:=(if n < 0 then - (n+1) else n) % m
def In64 (n:Int):Prop:=-9223372036854775808≤n∧n≤9223372036854775807
theorem around_lt {n m:Int} (h:0 < m):0≤aroundI n m∧aroundI n m < m:=by
 unfold aroundI
 have:0≤(if n < 0 then - (n+1) else n):=by split<;>omega
 exact⟨Int.emod_nonneg _ (by omega),Int.emod_lt_of_pos _ h⟩
theorem f12 (n m:Int) (hn:In64 n) (hm:m≠0) (H:List MB):call Tryz.prog pol1 20 [.int .i64 n,.int .i64 m] H=some (I (aroundI n m),H):=by
 obtain⟨h1,h2⟩:=hn
 refine call_run Tryz.func20 rfl rfl rfl rfl rfl rfl (fun _=>rfl) (by simp[AV.plain,AV.plainL,plain_ints,plain_span,plain_ins,plain_prg]) (by simp[AV.plain,AV.plainL,plain_ints,plain_span,plain_ins,plain_prg]) ?_ H
 simp +contextual (disch:=omega) only[Tryz.f20,dd20,ty3,ty4,↓reduceIte,eq_self,bindW_some,bindW_map,bindW_ite,bindW_iteN,W_seq,W_region,W_draw,W_cond,W_condK,W_ret,W_skip,W_exit,W_scope,W_label,W_block,blockK_norm,blockK_ret,blockK_exit,WO_nil,WO_cons,WO_guard,WD_nil,WD_cons,WD_guard,guardV,guardW_boolT,guardW_boolF,guardW_tup,fpL_some,fpL_none,footprint,footprint0,fineF,thenK_norm,thenK_ret,thenK_exit,put_some,put_none,ev_tmp,ev_con,ev_func,ofK_int,ofK_bool,ofK_str,ofK_nil,ofK_agg,ofC_int,ofC_bool,ofC_str,ofC_nil,ofC_nilp,one_int,one_bool,one_str,one_nil,one_nilp,evOp,evBuiltin,evCall,cfn,yldF,evLen,evAppend,getElem_16,getElem_4,List.length_cons,List.length_nil,List.reduceReplicate,Nat.reduceAdd,Nat.reduceSub,List.cons_append,List.nil_append,List.append_nil,if_false,if_true,Bool.false_eq_true,Bool.true_eq_false,reduceCtorEq,Option.map_some,Option.map_none,List.map_cons,List.map_nil,evBinOp,evBin,evUn,asB_bool,splitB_decide,splitB_true,splitB_false,splitB_beq,splitB_bne,splitB_not,endK_ret,endK_norm,List.getElem?_cons_zero,List.getElem?_cons_succ,evResults,evResult,packRes,retK_norm,retK_ret,cellsAt,mkVal,evFieldAddr,evField,evIndexAddr,evPart,evStore,evBuild,evBuildSlice,fillC,fillE,evSlice,evMakeSlice,evConvert,getRow,AV.cells,List.head?_cons,List.drop_zero,List.drop_succ_cons,List.take_zero,List.take_succ_cons,List.drop_nil,List.take_nil,List.all_cons,List.all_nil,AV.ok,Bool.and_self,Bool.and_true,Bool.true_and,and_self,and_true,true_and,Nat.reduceLeDiff,Nat.reduceMul,Nat.reduceLT,Nat.reduceEqDiff,Nat.zero_add,Nat.add_zero,setCells,splice,pairsOk,pairsX,altW_none,altW_some,cfg_al,WI_nil,WI_cons,FP.apart,heapEq_refl,sameAt_refl,Bool.or_true,Bool.true_or,Bool.or_false,srcElems,elemsOf,mutDst,indDst,thwDst,evLenH,evMapUpd,evLookup,getMp,keyOk,resOk,strOf,roundK_norm,roundK_exit,roundK_ret,List.length_map,List.getElem?_map,Int.toNat_natCast,Int.reduceBNe,Int.reduceBEq,decide_true,decide_false,Bool.not_true,Bool.not_false,List.set,set_0,set_1,set_2,set_3,set_4,look_hit,look,lookD_hit,lookD_cons,lookD_nil,ins_hit,ins,upd_hit,upd,rem1_hit,rem1,dropT,dropSt_eq,initT,cfg_dd,cfg_bd,cfg_ra,actL_nil,actL_cons,act1,updT_hit,updT,frzB,mu20,List.contains_nil,List.contains_cons,Nat.reduceBEq,Bool.or_self,dlt_t,dlt_f,dle_t,dle_f,dgt_t,dgt_f,dge_t,dge_f,beq_t,beq_f,bne_t,bne_f,lt_T,le_T,nle_T,nle_F,↓wrap_up,↓wrap_down,↓wrap_pred,↓wrap_sub_nat,i64_in,i64_quo,rem_in,Int.reduceToNat]
 unfold aroundI
 refine⟨fun h=>⟨hm,fzEq rfl ?_⟩,fun h=>⟨hm,fzEq rfl ?_⟩⟩
 ·rw[if_pos h];try (congr 2;omega)
 ·rw[if_neg h]
def pickI (l:List Int) (i m:Int):Int:=if i < 0 then 0 else match l[i.toNat]? with
 | some x=>aroundI x m
 | none=>0
theorem pick_lt {l:List Int} {i m:Int} (h:0 < m):0≤pickI l i m∧pickI l i m < m:=by
 unfold pickI
 split
 ·omega
 ·split
  ·exact around_lt h
  ·omega
end Go.Ev
namespace Go.Ev
attribute [local go_sem] evBuild evMakeSlice splice
section
attribute [local go_sem] W_block evAppend
open Go.Proofs Go.RowKit Go.IntWalk
set_option maxRecDepth 100000
set_option maxHeartbeats 4000000
def T24 (caps:Int) (runes:Bool) (g:AV):List Ins→St
 | []=>(⟨40,[(4,I 0),(3,.rf 2 1 0 0),(2,.rf 1 1 0 0),(1,.rf 0 1 0 0)],[.row 3 [g] 0,.row 3 [.agg [.sl true [],I 0,.bool false]] 0,.row 3 [.agg [.sl true [],I caps,.bool runes]] 0]⟩:St)
 | x::xs=>(⟨40,[(4,I ((xs.length+1:Nat):Int)),(3,.rf 2 1 0 0),(2,.rf 1 1 0 0),(1,.rf 0 1 0 0)],[.row 3 [g] 0,.row 3 [.agg [.sl true [],I 0,.bool false]] 0,.row 3 [.agg [.ms 4 5 (xs.length+1) 0 (xs.length+1),I caps,.bool runes]] 0,.row 5 [insAV x] 0,.row 5 (insAV x::xs.map insAV) 0]⟩:St)
theorem f24 (g:Prg) (hl:g.ins.length≤1000000) (H:List MB):call Tryz.prog pol1 13 [prgAV g] H=some (prgAV g,H):=by
 refine call_run Tryz.func13 rfl rfl rfl rfl rfl rfl (fun _=>rfl) (by simp[AV.plain,AV.plainL,plain_ints,plain_span,plain_ins,plain_prg]) (by simp[AV.plain,AV.plainL,plain_ints,plain_span,plain_ins,plain_prg]) ?_ H
 simp +contextual (disch:=omega) only[Tryz.f13,dd13,go_sem,simprocAttr,mu13,↓wrap_up,↓wrap_down,↓wrap_pred,↓wrap_sub_nat]
 refine W_count (M:=(mskOf (pol1.mask 13) (pol1.gc 13) (pol1.acts 13) 0 3)) rfl g.ins.length (fun i=>T24 g.caps g.runes (prgAV g) (g.ins.take i)) (fun i=>True) ?_ ?_ trivial _ (by first|rfl|(refine prep_cut rfl (by rfl) (by rfl) (by rfl) ?_ ?_<;>simp[AV.underL,AV.under,MB.under,underL_plain,under_plain,plain_ints,plain_span,plain_ins,plain_prg,-List.map_take]))
 ·intro i hi _
  obtain⟨p,hp⟩:∃ p,g.ins[i]?=some p:=⟨_,List.getElem?_eq_getElem hi⟩
  have hlen:(g.ins.take i).length=i:=by simp;omega
  rw[List.take_add_one,hp]
  generalize g.ins.take i=xs at *
  cases xs with
  | nil=>
    simp only[List.length_nil]at hlen
    subst hlen
    simp only[T24]
    simp +contextual (disch:=omega) only[Tryz.f13,dd13,go_sem,simprocAttr,mu13,↓wrap_up,↓wrap_down,↓wrap_pred,↓wrap_sub_nat,hp]
    exact⟨by simp[roomFor],(by first|rfl|(refine prep_cut rfl (by rfl) (by rfl) (by rfl) ?_ ?_<;>simp[AV.underL,AV.under,MB.under,underL_plain,under_plain,plain_ints,plain_span,plain_ins,plain_prg,-List.map_take]))⟩
  | cons x xs=>
    simp only[List.length_cons]at hlen
    subst hlen
    simp only[T24]
    simp +contextual (disch:=omega) only[Tryz.f13,dd13,go_sem,simprocAttr,mu13,↓wrap_up,↓wrap_down,↓wrap_pred,↓wrap_sub_nat,hp]
    refine⟨by simp[roomFor];omega,?_⟩
    refine prep_cut (n:=5) rfl (by rfl) rfl ?_ ?_ ?_
    ·simp[List.take_of_length_le]
    ·simp[AV.underL,AV.under]
    ·simp[AV.underL,AV.under,MB.under,underL_plain,under_plain,plain_span,plain_ins,plain_prg,underL_append]
 ·intro _
  rw[List.take_length]
  rcases g with ⟨ins,caps,runes⟩
  cases ins with
  | nil=>
    simp only[T24]
    simp +contextual (disch:=omega) only[Tryz.f13,dd13,go_sem,simprocAttr,mu13,↓wrap_up,↓wrap_down,↓wrap_pred,↓wrap_sub_nat]
    exact⟨_,rfl⟩
  | cons x xs=>
    simp only[T24]
    simp +contextual (disch:=omega) only[Tryz.f13,dd13,go_sem,simprocAttr,mu13,↓wrap_up,↓wrap_down,↓wrap_pred,↓wrap_sub_nat]
    simp only[fz,fzA_agg,fzL]
    rw[fzA_ms (n:=5) (els:=insAV x::xs.map insAV) (k:=5) (z:=0) rfl (by simp) (by simp)
     (by rw[List.drop_zero,List.take_of_length_le (by simp)];exact fzL_plain _ _ _ (plain_ins (x::xs)))]
    exact⟨_,rfl⟩
end
section
attribute [local go_sem] evAppend
open Go.Proofs Go.RowKit Go.IntWalk
set_option maxRecDepth 100000
set_option maxHeartbeats 4000000
abbrev insAVt (i:Ins):AV:=.agg [I i.op,I i.x,I i.y,I i.n,.sl true (i.set.map spanAV)]
structure SomeOk (g:Prg):Prop where
 len:1≤g.ins.length∧g.ins.length≤12
 caps:0≤g.caps∧g.caps≤2
 ok:∀ i∈g.ins,okIns g.ins.length g.caps g.runes i=true
 last:lastGood g=true
 sets:∀ i∈g.ins,i.set.length≤1
theorem underL_insT (n:Nat) (l:List Ins):AV.underL n (l.map insAVt)=true:=by
 induction l with
 | nil=>rfl
 | cons a l ih=>simp[AV.underL,AV.under,underL_plain,plain_span,ih]
theorem fzT_one (j:List AV→List MB→Option (List AV×List MB)) (i:Ins) (H:List MB):fzA j (insAVt i) H=some (insAV i,H):=by
 simp only[fzA_agg,fzL,fzA_int,fzA_sl,fzL_plain _ _ _ (plain_span i.set)]
theorem fz_allT {id tot:Nat} {ins:List Ins} {caps:Int} {runes:Bool} {H:List MB} (hr:getRow H id=some (5,ins.map insAVt,0)) (hn:tot=ins.length) :
  ∃ H',fz (.agg [.ms id 5 tot 0 tot,I caps,.bool runes]) H=some (prgAV ⟨ins,caps,runes⟩,H'):=by
 subst hn
 simp only[fz,fzA_agg,fzL]
 rw[fzA_ms (n:=5) (k:=5) (ys:=ins.map insAV) hr (by simp) (by simp) (by
  rw[List.drop_zero,List.take_of_length_le (by simp)];exact fzL_map (fun i H=>fzT_one _ i H) _ _)]
 exact⟨_,rfl⟩
theorem lastGood_app (xs:List Ins) (x:Ins) (c:Int) (r:Bool) (h:x.op=0∨x.op=2∨x.op=3):lastGood ⟨xs++[x],c,r⟩=true:=by
 simp[lastGood];omega
theorem ok_zero (n:Nat) (c:Int) (r:Bool):okIns n c r ⟨0,0,0,0,[]⟩=true:=by simp[okIns]
theorem next21 {n:Nat} {caps:Int} {runes:Bool} {xs:List Ins} {x:Ins} (h1:xs.length < n) (h2:∀ i∈xs,okIns n caps runes i=true∧i.set.length≤1) (hx:okIns n caps runes x=true∧x.set.length≤1)
  (hl:xs.length+1=n→x.op=0∨x.op=2∨x.op=3) :
  (xs++[x]).length≤n∧(∀ i∈xs++[x],okIns n caps runes i=true∧i.set.length≤1)∧((xs++[x]).length=n→lastGood ⟨xs++[x],caps,runes⟩=true):=
 ⟨by simp;omega,fun i hi=>by
   rcases List.mem_append.1 hi with h|h
   ·exact h2 i h
   ·rw[List.mem_singleton.1 h];exact hx,fun h=>lastGood_app _ _ _ _ (hl (by simpa using h))⟩
end
section
attribute [local go_sem] W_block evAppend
open Go.Proofs Go.RowKit Go.IntWalk
set_option maxRecDepth 100000
set_option maxHeartbeats 8000000
theorem polK_dead:polK.dead=pol1.dead:=rfl
theorem polK_bdead:polK.bdead=pol1.bdead:=rfl
theorem polK_racts:polK.racts=pol1.racts:=rfl
theorem polK_muts:polK.muts=pol1.muts:=rfl
theorem polK_alts:polK.alts=pol1.alts:=rfl
theorem k20 (n m:Int) (hn:In64 n) (hm:m≠0) (H:List MB):call Tryz.prog polK 20 [.int .i64 n,.int .i64 m] H=some (I (aroundI n m),H):=by
 obtain⟨h1,h2⟩:=hn
 refine call_run Tryz.func20 rfl rfl rfl rfl rfl rfl (fun _=>rfl) (by simp[AV.plain,AV.plainL,plain_ints,plain_span,plain_ins,plain_prg]) (by simp[AV.plain,AV.plainL,plain_ints,plain_span,plain_ins,plain_prg]) ?_ H
 simp +contextual (disch:=omega) only[Tryz.f20,dd20,go_sem,simprocAttr,mu20,↓wrap_up,↓wrap_down,↓wrap_pred,↓wrap_sub_nat,polK_dead,polK_bdead,polK_racts,polK_muts,polK_alts]
 unfold aroundI
 refine⟨fun h=>⟨hm,fzEq rfl ?_⟩,fun h=>⟨hm,fzEq rfl ?_⟩⟩
 ·rw[if_pos h];try (congr 2;omega)
 ·rw[if_neg h]
theorem k34 (l:List Int) (i m:Int) (hl:∀ x∈l,In64 x) (hm:m≠0) (H:List MB):call Tryz.prog polK 34 [.sl false (l.map I),.int .i64 i,.int .i64 m] H=some (I (pickI l i m),H):=by
 refine call_run Tryz.func34 rfl rfl rfl rfl rfl rfl (fun _=>rfl) (by simp[AV.plain,AV.plainL,plain_ints,plain_span,plain_ins,plain_prg]) (by simp[AV.plain,AV.plainL,plain_ints,plain_span,plain_ins,plain_prg]) ?_ H
 by_cases h0:i < 0
 ·have e:pickI l i m=0:=by simp[pickI,h0]
  rw[e]
  simp +contextual (disch:=omega) only[Tryz.f34,dd34,go_sem,simprocAttr,mu34,↓wrap_up,↓wrap_down,↓wrap_pred,↓wrap_sub_nat,polK_dead,polK_bdead,polK_racts,polK_muts,polK_alts]
  exact fzEq rfl rfl
 ·obtain⟨k,rfl⟩:∃ k:Nat,i=k:=⟨i.toNat,by omega⟩
  by_cases h1:k < l.length
  ·obtain⟨p,hp⟩:∃ p,l[k]?=some p:=⟨_,List.getElem?_eq_getElem h1⟩
   have e:pickI l k m=aroundI p m:=by simp[pickI,h0,hp]
   rw[e]
   have hf:=k20 p m (hl p (List.mem_of_getElem? hp)) hm
   simp +contextual (disch:=omega) only[Tryz.f34,dd34,go_sem,simprocAttr,mu34,↓wrap_up,↓wrap_down,↓wrap_pred,↓wrap_sub_nat,polK_dead,polK_bdead,polK_racts,polK_muts,polK_alts,hp,hf]
   exact fzEq rfl rfl
  ·have e:pickI l k m=0:=by simp[pickI,List.getElem?_eq_none (Nat.le_of_not_lt h1)]
   rw[e]
   simp +contextual (disch:=omega) only[Tryz.f34,dd34,go_sem,simprocAttr,mu34,↓wrap_up,↓wrap_down,↓wrap_pred,↓wrap_sub_nat,polK_dead,polK_bdead,polK_racts,polK_muts,polK_alts]
   exact fzEq rfl rfl
end
section
attribute [local go_sem] evAppend
open Go.Proofs Go.RowKit Go.IntWalk
set_option maxRecDepth 100000
set_option maxHeartbeats 4000000
def T21k (l:List Int) (n caps:Int) (runes:Bool):List Ins→St
 | []=>(⟨119,[(5,I ((0:Nat):Int)),(4,.rf 2 1 0 0),(3,I n),(2,.rf 1 1 0 0),(0,.sl false (l.map I))],[.row 3 [.agg [.sl true [],I 0,.bool false]] 0,.row 3 [.agg [.sl true [],I 0,.bool false]] 0,.row 3 [.agg [.sl true [],I caps,.bool runes]] 0]⟩:St)
 | x::xs=>(⟨119,[(5,I ((xs.length+1:Nat):Int)),(4,.rf 2 1 0 0),(3,I n),(2,.rf 1 1 0 0),(0,.sl false (l.map I))],[.row 3 [.agg [.sl true [],I 0,.bool false]] 0,.row 3 [.agg [.sl true [],I 0,.bool false]] 0,.row 3 [.agg [.ms 4 5 (xs.length+1) 0 (xs.length+1),I caps,.bool runes]] 0,.row 5 [insAVt x] 0,.row 5 (insAVt x::xs.map insAVt) 0]⟩:St)
theorem k10 (l:List Int) (hl:∀ x∈l,In64 x):∃ r:AV×List MB,(∃(g:Prg) (x:Ins),SomeOk g∧r=(.agg [.ms 4 5 g.ins.length 0 g.ins.length,I g.caps,.bool g.runes],[.row 3 [.agg [.sl true [],I 0,.bool false]] 0,.row 3 [.agg [.ms 4 5 g.ins.length 0 g.ins.length,I g.caps,.bool g.runes]] 0,.row 3 [.agg [.ms 4 5 g.ins.length 0 g.ins.length,I g.caps,.bool g.runes]] 0,.row 5 [insAVt x] 0,.row 5 (g.ins.map insAVt) 0])) ∧
  call Tryz.prog polK 10 [.sl false (l.map I)] [.row 3 [.agg [.sl true [],I 0,.bool false]] 0]=some r:=by
 obtain⟨n,hn1,hn2,hn3⟩:∃ n:Nat,(n:Int)=1+pickI l 0 12∧1≤n∧n≤12:=by
  have:=pick_lt (l:=l) (i:=0) (m:=12) (by omega)
  exact⟨(1+pickI l 0 12).toNat,by omega,by omega,by omega⟩
 have hw:IntKind.i64.wrap (1+pickI l 0 12)=n:=by rw[i64_in]<;>omega
 have hcaps:=pick_lt (l:=l) (i:=1) (m:=3) (by omega)
 have rp:∀ H1 r H,retPol polK 10 H1 r H=some (r,H):=fun H1 r H=>rfl
 refine call_run2E (pol:=polK) Tryz.func10 rfl rfl rfl rfl (frzArgs_mix _ _ _ (by have h:=plain_ints l;simp[mixOk,AV.plain,h])) ?_
 have hP:=fun i m h=>k34 l i m hl h
 simp +contextual (disch:=omega) only[Tryz.f10,dd10,go_sem,↓reduceIte,W_block,List.reduceReplicate,Nat.reduceAdd,Nat.reduceSub,reduceCtorEq,Nat.reduceLeDiff,Nat.reduceMul,Nat.reduceLT,Nat.reduceEqDiff,Int.reduceBNe,Int.reduceBEq,Int.reduceEq,Int.reduceLT,Int.reduceLE,Int.reduceGT,Int.reduceGE,mu10,Nat.reduceBEq,↓wrap_up,↓wrap_down,↓wrap_pred,↓wrap_sub_nat,Int.reduceToNat,polK_dead,polK_bdead,polK_racts,polK_muts,polK_alts,hP 0 12 (by omega),hP 1 3 (by omega),hP 2 3 (by omega),hw]
 generalize pickI l 1 3=caps at *
 generalize (pickI l 2 3 == 0)=runes at *
 refine W_for (M:=(mskOf (polK.mask 10) (polK.gc 10) (polK.acts 10) 1 4)) rfl (T21k l n caps runes) (fun xs=>xs.length≤n∧(∀ i∈xs,okIns n caps runes i=true∧i.set.length≤1)∧(xs.length=n→lastGood ⟨xs,caps,runes⟩=true)) (fun xs=>n - xs.length) [] ?_ ⟨by simp,by simp,by simp;omega⟩ _ (by first|rfl|(refine prep_cut rfl (by rfl) (by rfl) (by rfl) ?_ ?_<;>simp[AV.underL,AV.under,MB.under,underL_plain,under_plain,plain_ints,plain_span,plain_ins,plain_prg,-List.map_take]))
 rintro xs ⟨h1,h2,h3⟩
 by_cases hlt:xs.length < n
 ·have hk:=pick_lt (l:=l) (i:=3+xs.length) (m:=1048576) (by omega)
  have hPk:=hP (3+xs.length) 1048576 (by omega)
  generalize pickI l (3+xs.length) 1048576=k at *
  have hm3:∀ z:Int,0 < caps→0≤z % (2 * caps)∧z % (2 * caps) < 2 * caps:=fun z h=>⟨Int.emod_nonneg _ (by omega),Int.emod_lt_of_pos _ (by omega)⟩
  have hmod:∀ z:Int,0≤z % n∧z % n < n:=fun z=>⟨Int.emod_nonneg _ (by omega),Int.emod_lt_of_pos _ (by omega)⟩
  have hm1:=fun z=>(hmod z).1
  have hm2:=fun z=>(hmod z).2
  cases xs with
  | nil=>
    simp only[T21k]
    simp only[List.length_nil]at hPk hlt
    simp +contextual (disch:=omega) only[Tryz.f10,dd10,go_sem,↓reduceIte,List.reduceReplicate,Nat.reduceAdd,Nat.reduceSub,reduceCtorEq,Nat.reduceLeDiff,Nat.reduceMul,Nat.reduceLT,Nat.reduceEqDiff,Int.reduceBNe,Int.reduceBEq,Int.reduceEq,Int.reduceLT,Int.reduceLE,Int.reduceGT,Int.reduceGE,mu10,Nat.reduceBEq,↓wrap_up,↓wrap_down,↓wrap_pred,↓wrap_sub_nat,Int.reduceToNat,polK_dead,polK_bdead,polK_racts,polK_muts,polK_alts,W_block (id:=1),hPk]
    refine W_cut (fun s=>∃ x:Ins,x.set.length≤1∧okIns n caps runes x=true∧s=⟨119,[(7,.rf 3 1 0 0),(5,I ((0:Nat):Int)),(4,.rf 2 1 0 0),(3,I n),(2,.rf 1 1 0 0),(0,.sl false (l.map I))],
     [.row 3 [.agg [.sl true [],I 0,.bool false]] 0,.row 3 [.agg [.sl true [],I 0,.bool false]] 0,.row 3 [.agg [.sl true [],I caps,.bool runes]] 0,.row 5 [insAVt x] 0]⟩) ?_ ?_
    ·simp +contextual (disch:=omega) only[Tryz.f10,dd10,go_sem,↓reduceIte,W_block,List.reduceReplicate,Nat.reduceAdd,Nat.reduceSub,reduceCtorEq,Nat.reduceLeDiff,Nat.reduceMul,Nat.reduceLT,Nat.reduceEqDiff,Int.reduceBNe,Int.reduceBEq,Int.reduceEq,Int.reduceLT,Int.reduceLE,Int.reduceGT,Int.reduceGE,mu10,Nat.reduceBEq,↓wrap_up,↓wrap_down,↓wrap_pred,↓wrap_sub_nat,Int.reduceToNat,polK_dead,polK_bdead,polK_racts,polK_muts,polK_alts,cut_norm]
     repeat' (first|intro _|apply And.intro)
     all_goals first
      | omega
      | (unfold dOk;kernel_rfl)
      | kernel_rfl
      | (refine⟨⟨_,_,_,_,[]⟩,?_,?_,rfl⟩<;>simp[okIns,refSpans,badAt,lastOk,hm1,hm2]<;>done)
      | (refine⟨⟨_,_,_,_,[]⟩,?_,?_,rfl⟩<;>simp[okIns,refSpans,badAt,lastOk,hm1,hm2]<;>omega)
      | (refine⟨⟨_,_,_,_,[]⟩,?_,?_,rfl⟩
         ·simp
         ·have q:=hm3 (k / 8) (by omega)
          simp[okIns,refSpans,badAt,lastOk]
          omega)
      | (refine⟨⟨_,_,_,_,[(97,_)]⟩,?_,?_,rfl⟩
         ·simp
         ·simp[okIns,refSpans,badAt,lastOk]
          (try split)<;>omega)
    ·rintro _ ⟨z,hz1,hz2,rfl⟩
     have hop:=okIns_op hz2
     by_cases h1n:0+1=n
     ·by_cases ha:z.op=1
      ·simp +contextual (disch:=omega) only[Tryz.f10,dd10,go_sem,↓reduceIte,W_block,List.reduceReplicate,Nat.reduceAdd,Nat.reduceSub,reduceCtorEq,Nat.reduceLeDiff,Nat.reduceMul,Nat.reduceLT,Nat.reduceEqDiff,Int.reduceBNe,Int.reduceBEq,Int.reduceEq,Int.reduceLT,Int.reduceLE,Int.reduceGT,Int.reduceGE,mu10,Nat.reduceBEq,↓wrap_up,↓wrap_down,↓wrap_pred,↓wrap_sub_nat,Int.reduceToNat,polK_dead,polK_bdead,polK_racts,polK_muts,polK_alts]
       refine⟨by simp[roomFor],[]++[⟨0,0,0,0,[]⟩],next21 (by simpa using hlt) h2 ⟨ok_zero _ _ _,by simp⟩ (fun h=>by simp only[List.length_nil,List.length_cons]at h;first|exact Or.inl rfl|omega),by simp;omega,?_⟩
       exact(by first|rfl|(refine prep_cut rfl (by rfl) (by rfl) (by rfl) ?_ ?_<;>simp[AV.underL,AV.under,MB.under,underL_plain,under_plain,plain_ints,plain_span,plain_ins,plain_prg,-List.map_take,underL_insT]))
      ·by_cases hb:4≤z.op
       ·simp +contextual (disch:=omega) only[Tryz.f10,dd10,go_sem,↓reduceIte,W_block,List.reduceReplicate,Nat.reduceAdd,Nat.reduceSub,reduceCtorEq,Nat.reduceLeDiff,Nat.reduceMul,Nat.reduceLT,Nat.reduceEqDiff,Int.reduceBNe,Int.reduceBEq,Int.reduceEq,Int.reduceLT,Int.reduceLE,Int.reduceGT,Int.reduceGE,mu10,Nat.reduceBEq,↓wrap_up,↓wrap_down,↓wrap_pred,↓wrap_sub_nat,Int.reduceToNat,polK_dead,polK_bdead,polK_racts,polK_muts,polK_alts]
        refine⟨by simp[roomFor],[]++[⟨0,0,0,0,[]⟩],next21 (by simpa using hlt) h2 ⟨ok_zero _ _ _,by simp⟩ (fun h=>by simp only[List.length_nil,List.length_cons]at h;first|exact Or.inl rfl|omega),by simp;omega,?_⟩
        exact(by first|rfl|(refine prep_cut rfl (by rfl) (by rfl) (by rfl) ?_ ?_<;>simp[AV.underL,AV.under,MB.under,underL_plain,under_plain,plain_ints,plain_span,plain_ins,plain_prg,-List.map_take,underL_insT]))
       ·simp +contextual (disch:=omega) only[Tryz.f10,dd10,go_sem,↓reduceIte,W_block,List.reduceReplicate,Nat.reduceAdd,Nat.reduceSub,reduceCtorEq,Nat.reduceLeDiff,Nat.reduceMul,Nat.reduceLT,Nat.reduceEqDiff,Int.reduceBNe,Int.reduceBEq,Int.reduceEq,Int.reduceLT,Int.reduceLE,Int.reduceGT,Int.reduceGE,mu10,Nat.reduceBEq,↓wrap_up,↓wrap_down,↓wrap_pred,↓wrap_sub_nat,Int.reduceToNat,polK_dead,polK_bdead,polK_racts,polK_muts,polK_alts]
        refine⟨by simp[roomFor],[]++[z],next21 (by simpa using hlt) h2 ⟨hz2,hz1⟩ (fun h=>by simp only[List.length_nil,List.length_cons]at h;first|exact Or.inl rfl|omega),by simp;omega,?_⟩
        exact(by first|rfl|(refine prep_cut rfl (by rfl) (by rfl) (by rfl) ?_ ?_<;>simp[AV.underL,AV.under,MB.under,underL_plain,under_plain,plain_ints,plain_span,plain_ins,plain_prg,-List.map_take,underL_insT]))
     ·simp +contextual (disch:=omega) only[Tryz.f10,dd10,go_sem,↓reduceIte,W_block,List.reduceReplicate,Nat.reduceAdd,Nat.reduceSub,reduceCtorEq,Nat.reduceLeDiff,Nat.reduceMul,Nat.reduceLT,Nat.reduceEqDiff,Int.reduceBNe,Int.reduceBEq,Int.reduceEq,Int.reduceLT,Int.reduceLE,Int.reduceGT,Int.reduceGE,mu10,Nat.reduceBEq,↓wrap_up,↓wrap_down,↓wrap_pred,↓wrap_sub_nat,Int.reduceToNat,polK_dead,polK_bdead,polK_racts,polK_muts,polK_alts]
      refine⟨by simp[roomFor],[]++[z],next21 (by simpa using hlt) h2 ⟨hz2,hz1⟩ (fun h=>by simp only[List.length_nil,List.length_cons]at h;first|exact Or.inl rfl|omega),by simp;omega,?_⟩
      exact(by first|rfl|(refine prep_cut rfl (by rfl) (by rfl) (by rfl) ?_ ?_<;>simp[AV.underL,AV.under,MB.under,underL_plain,under_plain,plain_ints,plain_span,plain_ins,plain_prg,-List.map_take,underL_insT]))
  | cons x xs=>
    simp only[T21k]
    simp only[List.length_cons]at hPk hlt
    simp +contextual (disch:=omega) only[Tryz.f10,dd10,go_sem,↓reduceIte,List.reduceReplicate,Nat.reduceAdd,Nat.reduceSub,reduceCtorEq,Nat.reduceLeDiff,Nat.reduceMul,Nat.reduceLT,Nat.reduceEqDiff,Int.reduceBNe,Int.reduceBEq,Int.reduceEq,Int.reduceLT,Int.reduceLE,Int.reduceGT,Int.reduceGE,mu10,Nat.reduceBEq,↓wrap_up,↓wrap_down,↓wrap_pred,↓wrap_sub_nat,Int.reduceToNat,polK_dead,polK_bdead,polK_racts,polK_muts,polK_alts,W_block (id:=1),hPk]
    refine W_cut (fun s=>∃ z:Ins,z.set.length≤1∧okIns n caps runes z=true∧s=⟨119,[(7,.rf 5 1 0 0),(5,I ((xs.length+1:Nat):Int)),(4,.rf 2 1 0 0),(3,I n),(2,.rf 1 1 0 0),(0,.sl false (l.map I))],
     [.row 3 [.agg [.sl true [],I 0,.bool false]] 0,.row 3 [.agg [.sl true [],I 0,.bool false]] 0,.row 3 [.agg [.ms 4 5 (xs.length+1) 0 (xs.length+1),I caps,.bool runes]] 0,.row 5 [insAVt x] 0,.row 5 (insAVt x::xs.map insAVt) 0,.row 5 [insAVt z] 0]⟩) ?_ ?_
    ·simp +contextual (disch:=omega) only[Tryz.f10,dd10,go_sem,↓reduceIte,W_block,List.reduceReplicate,Nat.reduceAdd,Nat.reduceSub,reduceCtorEq,Nat.reduceLeDiff,Nat.reduceMul,Nat.reduceLT,Nat.reduceEqDiff,Int.reduceBNe,Int.reduceBEq,Int.reduceEq,Int.reduceLT,Int.reduceLE,Int.reduceGT,Int.reduceGE,mu10,Nat.reduceBEq,↓wrap_up,↓wrap_down,↓wrap_pred,↓wrap_sub_nat,Int.reduceToNat,polK_dead,polK_bdead,polK_racts,polK_muts,polK_alts,cut_norm]
     repeat' (first|intro _|apply And.intro)
     all_goals first
      | omega
      | (unfold dOk;kernel_rfl)
      | kernel_rfl
      | (refine⟨⟨_,_,_,_,[]⟩,?_,?_,rfl⟩<;>simp[okIns,refSpans,badAt,lastOk,hm1,hm2]<;>done)
      | (refine⟨⟨_,_,_,_,[]⟩,?_,?_,rfl⟩<;>simp[okIns,refSpans,badAt,lastOk,hm1,hm2]<;>omega)
      | (refine⟨⟨_,_,_,_,[]⟩,?_,?_,rfl⟩
         ·simp
         ·have q:=hm3 (k / 8) (by omega)
          simp[okIns,refSpans,badAt,lastOk]
          omega)
      | (refine⟨⟨_,_,_,_,[(97,_)]⟩,?_,?_,rfl⟩
         ·simp
         ·simp[okIns,refSpans,badAt,lastOk]
          (try split)<;>omega)
    ·rintro _ ⟨z,hz1,hz2,rfl⟩
     have hop:=okIns_op hz2
     by_cases h1n:xs.length+1+1=n
     ·by_cases ha:z.op=1
      ·simp +contextual (disch:=omega) only[Tryz.f10,dd10,go_sem,↓reduceIte,W_block,List.reduceReplicate,Nat.reduceAdd,Nat.reduceSub,reduceCtorEq,Nat.reduceLeDiff,Nat.reduceMul,Nat.reduceLT,Nat.reduceEqDiff,Int.reduceBNe,Int.reduceBEq,Int.reduceEq,Int.reduceLT,Int.reduceLE,Int.reduceGT,Int.reduceGE,mu10,Nat.reduceBEq,↓wrap_up,↓wrap_down,↓wrap_pred,↓wrap_sub_nat,Int.reduceToNat,polK_dead,polK_bdead,polK_racts,polK_muts,polK_alts]
       refine⟨by simp[roomFor];omega,(x::xs)++[⟨0,0,0,0,[]⟩],next21 (by simpa using hlt) h2 ⟨ok_zero _ _ _,by simp⟩ (fun h=>by simp only[List.length_nil,List.length_cons]at h;first|exact Or.inl rfl|omega),by simp;omega,?_⟩
       simp only[List.cons_append,T21k,List.length_append,List.length_cons,List.length_nil,Nat.zero_add]
       refine prep_cut (n:=5) rfl (by rfl) rfl ?_ ?_ ?_
       ·simp[List.take_of_length_le]
       ·simp[AV.underL,AV.under,underL_plain,plain_ints]
       ·simp[AV.underL,AV.under,MB.under,underL_plain,plain_span,underL_insT,underL_append]
      ·by_cases hb:4≤z.op
       ·simp +contextual (disch:=omega) only[Tryz.f10,dd10,go_sem,↓reduceIte,W_block,List.reduceReplicate,Nat.reduceAdd,Nat.reduceSub,reduceCtorEq,Nat.reduceLeDiff,Nat.reduceMul,Nat.reduceLT,Nat.reduceEqDiff,Int.reduceBNe,Int.reduceBEq,Int.reduceEq,Int.reduceLT,Int.reduceLE,Int.reduceGT,Int.reduceGE,mu10,Nat.reduceBEq,↓wrap_up,↓wrap_down,↓wrap_pred,↓wrap_sub_nat,Int.reduceToNat,polK_dead,polK_bdead,polK_racts,polK_muts,polK_alts]
        refine⟨by simp[roomFor];omega,(x::xs)++[⟨0,0,0,0,[]⟩],next21 (by simpa using hlt) h2 ⟨ok_zero _ _ _,by simp⟩ (fun h=>by simp only[List.length_nil,List.length_cons]at h;first|exact Or.inl rfl|omega),by simp;omega,?_⟩
        simp only[List.cons_append,T21k,List.length_append,List.length_cons,List.length_nil,Nat.zero_add]
        refine prep_cut (n:=5) rfl (by rfl) rfl ?_ ?_ ?_
        ·simp[List.take_of_length_le]
        ·simp[AV.underL,AV.under,underL_plain,plain_ints]
        ·simp[AV.underL,AV.under,MB.under,underL_plain,plain_span,underL_insT,underL_append]
       ·simp +contextual (disch:=omega) only[Tryz.f10,dd10,go_sem,↓reduceIte,W_block,List.reduceReplicate,Nat.reduceAdd,Nat.reduceSub,reduceCtorEq,Nat.reduceLeDiff,Nat.reduceMul,Nat.reduceLT,Nat.reduceEqDiff,Int.reduceBNe,Int.reduceBEq,Int.reduceEq,Int.reduceLT,Int.reduceLE,Int.reduceGT,Int.reduceGE,mu10,Nat.reduceBEq,↓wrap_up,↓wrap_down,↓wrap_pred,↓wrap_sub_nat,Int.reduceToNat,polK_dead,polK_bdead,polK_racts,polK_muts,polK_alts]
        refine⟨by simp[roomFor];omega,(x::xs)++[z],next21 (by simpa using hlt) h2 ⟨hz2,hz1⟩ (fun h=>by simp only[List.length_nil,List.length_cons]at h;first|exact Or.inl rfl|omega),by simp;omega,?_⟩
        simp only[List.cons_append,T21k,List.length_append,List.length_cons,List.length_nil,Nat.zero_add]
        refine prep_cut (n:=5) rfl (by rfl) rfl ?_ ?_ ?_
        ·simp[List.take_of_length_le]
        ·simp[AV.underL,AV.under,underL_plain,plain_ints]
        ·simp[AV.underL,AV.under,MB.under,underL_plain,plain_span,underL_insT,underL_append]
     ·simp +contextual (disch:=omega) only[Tryz.f10,dd10,go_sem,↓reduceIte,W_block,List.reduceReplicate,Nat.reduceAdd,Nat.reduceSub,reduceCtorEq,Nat.reduceLeDiff,Nat.reduceMul,Nat.reduceLT,Nat.reduceEqDiff,Int.reduceBNe,Int.reduceBEq,Int.reduceEq,Int.reduceLT,Int.reduceLE,Int.reduceGT,Int.reduceGE,mu10,Nat.reduceBEq,↓wrap_up,↓wrap_down,↓wrap_pred,↓wrap_sub_nat,Int.reduceToNat,polK_dead,polK_bdead,polK_racts,polK_muts,polK_alts]
      refine⟨by simp[roomFor];omega,(x::xs)++[z],next21 (by simpa using hlt) h2 ⟨hz2,hz1⟩ (fun h=>by simp only[List.length_nil,List.length_cons]at h;first|exact Or.inl rfl|omega),by simp;omega,?_⟩
      simp only[List.cons_append,T21k,List.length_append,List.length_cons,List.length_nil,Nat.zero_add]
      refine prep_cut (n:=5) rfl (by rfl) rfl ?_ ?_ ?_
      ·simp[List.take_of_length_le]
      ·simp[AV.underL,AV.under,underL_plain,plain_ints]
      ·simp[AV.underL,AV.under,MB.under,underL_plain,plain_span,underL_insT,underL_append]
 ·have hn':xs.length=n:=by omega
  cases xs with
  | nil=>simp at hn';omega
  | cons x xs=>
    simp only[T21k]
    simp only[List.length_cons]at hn'
    simp +contextual (disch:=omega) only[Tryz.f10,dd10,go_sem,↓reduceIte,W_block,List.reduceReplicate,Nat.reduceAdd,Nat.reduceSub,reduceCtorEq,Nat.reduceLeDiff,Nat.reduceMul,Nat.reduceLT,Nat.reduceEqDiff,Int.reduceBNe,Int.reduceBEq,Int.reduceEq,Int.reduceLT,Int.reduceLE,Int.reduceGT,Int.reduceGE,mu10,Nat.reduceBEq,↓wrap_up,↓wrap_down,↓wrap_pred,↓wrap_sub_nat,Int.reduceToNat,polK_dead,polK_bdead,polK_racts,polK_muts,polK_alts]
    exact⟨_,⟨⟨x::xs,caps,runes⟩,x,⟨by simp;omega,by simp only[];omega,fun i hi=>by simp only[List.length_cons,hn'];exact(h2 i hi).1,h3 hn',fun i hi=>(h2 i hi).2⟩,rfl⟩,rp _ _ _⟩
end
section
attribute [local go_sem] W_block evAppend
open Go.Proofs Go.RowKit Go.IntWalk
set_option maxRecDepth 100000
set_option maxHeartbeats 4000000
structure PrgN (g:Prg) (a b:Nat):Prop where
 len:g.ins.length≤a
 sets:∀ i∈g.ins,i.set.length≤b
 caps:In64 g.caps
end
section
attribute [local go_sem] W_block evAppend tySzE List.head?_drop Nat.mul_one sameAt_zero sameAt_two sameAt_three sameAt_four sameAt_five room_ok
open Go.Proofs Go.RowKit Go.IntWalk
set_option maxRecDepth 100000
set_option maxHeartbeats 8000000
theorem plain_setT (i:Ins) (n:Nat):AV.under n (insAVt i)=true:=by
 simp[AV.under,AV.underL,underL_plain n _ (plain_span i.set)]
abbrev k9H (l0:List Ins) (caps:Int) (runes:Bool) (ins:List Ins) (x:Ins):List MB:=
 [.row 3 [.agg [.sl true [],I 0,.bool false]] 0,.row 3 [.agg [.ms 4 5 l0.length 0 l0.length,I caps,.bool runes]] 0,.row 3 [.agg [.ms 4 5 l0.length 0 l0.length,I caps,.bool runes]] 0,.row 5 [insAVt x] 0,.row 5 (ins.map insAVt) 0,.row 3 [.agg [.ms 4 5 l0.length 0 l0.length,I caps,.bool runes]] 0]
theorem k9_under (l0:List Ins) (caps:Int) (runes:Bool) (ins:List Ins) (x:Ins):(k9H l0 caps runes ins x).all (MB.under 6)=true:=by
 have h1:=underL_insT 6 ins
 have h2:=plain_setT x 6
 simp only[AV.under]at h2
 simp[MB.under,AV.underL,AV.under,h1]
 simpa [AV.underL,AV.under] using h2
structure KInv (g:Prg) (l:List Ins):Prop where
 len:l.length=g.ins.length
 ok:∀ x∈l,x.set.length≤1∧okIns g.ins.length g.caps g.runes x=true
 last:lastGood ⟨l,g.caps,g.runes⟩=true
theorem KInv.set {g:Prg} {l:List Ins} (h:KInv g l) {i:Nat} {x x':Ins} (hx:l[i]?=some x) (hs:x'.set.length≤1) (ho:okIns g.ins.length g.caps g.runes x' = true) (hl:x'.op=x.op∨i+1 < l.length):KInv g (l.set i x'):=by
 refine⟨by simp[h.len],fun y hy=>?_,?_⟩
 ·rcases List.mem_or_eq_of_mem_set hy with h1|h1
  ·exact h.ok y h1
  ·rw[h1];exact⟨hs,ho⟩
 ·have hl2:=h.last
  have hil:=(List.getElem?_eq_some_iff.1 hx).1
  simp only[lastGood,List.length_set]at hl2 ⊢
  by_cases e:i=l.length - 1
  ·subst e
   rw[List.getElem?_set_self hil]
   rw[hx]at hl2
   rcases hl with h1|h1
   ·simp only at hl2 ⊢
    rw[h1];exact hl2
   ·omega
  ·rw[List.getElem?_set_ne e]
   exact hl2
theorem KInv.valid {g:Prg} {l:List Ins} (h:KInv g l) (hg:SomeOk g):validG ⟨l,g.caps,g.runes⟩=0:=by
 have h1:=hg.len
 have h2:=hg.caps
 have h3:=h.len
 unfold validG
 rw[if_neg (by simp only;omega),if_neg (by simp only;omega),if_pos]
 simp only[h.last,Bool.and_true,List.all_eq_true]
 intro x hx
 simp only[h3]
 exact(h.ok x hx).2
theorem k9 (l:List Int) (hl:∀ x∈l,In64 x):∃ r,(∃ g,PrgN g 12 1∧1≤g.ins.length∧validG g=0∧r=prgAV g)∧∀ H,call Tryz.prog polK 9 [.sl false (l.map I)] H=some (r,H):=by
 obtain⟨r10,⟨g,x0,hg,rfl⟩,h10⟩:=k10 l hl
 have hP:=fun i m h=>k34 l i m hl h
 obtain⟨hg1,hg2⟩:=hg.len
 refine call_runA Tryz.func9 rfl rfl rfl rfl rfl rfl (fun _=>rfl) (by simp[AV.plain,AV.plainL,plain_ints,plain_span,plain_ins,plain_prg]) ?_ ?_
 ·rintro _ ⟨g,_,_,_,rfl⟩;exact plain_prg g
 simp +contextual (disch:=omega) only[Tryz.f9,dd9,go_sem,simprocAttr,mu9,↓wrap_up,↓wrap_down,↓wrap_pred,↓wrap_sub_nat,polK_dead,polK_bdead,polK_racts,polK_muts,polK_alts,h10]
 have hk4:∀ i:Nat,AV.underL 6 [.int .i64 i,.rf 5 1 0 0,.rf 0 1 0 0,.sl false (l.map I)]=true:=fun i=>by
  have:=underL_plain 6 _ (plain_ints l)
  simp[AV.underL,AV.under,this]
 refine W_for (σ:=Nat×List Ins) (M:=(mskOf (polK.mask 9) (polK.gc 9) (polK.acts 9) 0 3)) (by rfl) (fun s=>(⟨57,[(4,NV s.1),(3,.rf 5 1 0 0),(2,.rf 0 1 0 0),(0,.sl false (l.map I))],[.row 3 [.agg [.sl true [],I 0,.bool false]] 0,.row 3 [.agg [.ms 4 5 g.ins.length 0 g.ins.length,I g.caps,.bool g.runes]] 0,.row 3 [.agg [.ms 4 5 g.ins.length 0 g.ins.length,I g.caps,.bool g.runes]] 0,.row 5 [insAVt x0] 0,.row 5 (s.2.map insAVt) 0,.row 3 [.agg [.ms 4 5 g.ins.length 0 g.ins.length,I g.caps,.bool g.runes]] 0]⟩:St))
  (fun s=>s.1≤g.ins.length∧KInv g s.2) (fun s=>g.ins.length - s.1) (0,g.ins) ?_ ⟨Nat.zero_le _,rfl,fun x hx=>⟨hg.sets x hx,hg.ok x hx⟩,hg.last⟩ _ ?_
 ·rintro⟨i,ins⟩ ⟨hi,hK⟩
  simp only at hi hK ⊢
  have hlen:=hK.len
  have hset:∀ x∈ins,x.set.length≤1:=fun x hx=>(hK.ok x hx).1
  by_cases hil:i < g.ins.length
  ·obtain⟨x,hx⟩:∃ x,ins[i]?=some x:=⟨_,List.getElem?_eq_getElem (by omega)⟩
   have hx':(ins.map insAVt)[i]?=some (insAVt x):=by simp[hx]
   have hxs:=hset x (List.mem_of_getElem? hx)
   have hlt:((i:Int) < ((g.ins.length:Nat):Int))=True:=eq_true (by omega)
   have hwi:IntKind.i64.wrap ((i:Int)+1)=((i+1:Nat):Int):=by rw[i64_in]<;>omega
   have hxo:=(hK.ok x (List.mem_of_getElem? hx)).2
   have hxl:x.op=5∨x.op=1→i+1 < g.ins.length:=fun ho=>by
    refine Classical.byContradiction fun hn=>?_
    have e:i=ins.length - 1:=by omega
    have hl2:=hK.last
    simp only[lastGood,← e,hx]at hl2
    rcases ho with ho|ho<;>simp[ho]at hl2
   have hms:∀ x':Ins,(ins.map insAVt).set i (insAVt x')=(ins.set i x').map insAVt:=fun x'=>by rw[List.map_set]
   have hun:∀ x':Ins,[MB.row 3 [.agg [.sl true [],I 0,.bool false]] 0,.row 3 [.agg [.ms 4 5 g.ins.length 0 g.ins.length,I g.caps,.bool g.runes]] 0,.row 3 [.agg [.ms 4 5 g.ins.length 0 g.ins.length,I g.caps,.bool g.runes]] 0,.row 5 [insAVt x0] 0,.row 5 ((ins.map insAVt).set i (insAVt x')) 0,.row 3 [.agg [.ms 4 5 g.ins.length 0 g.ins.length,I g.caps,.bool g.runes]] 0].all (MB.under 6)=true:=fun x'=>by
    rw[hms];exact k9_under g.ins g.caps g.runes (ins.set i x') x0
   by_cases h5:x.op=5
   ·simp +contextual (disch:=omega) only[Tryz.f9,dd9,go_sem,simprocAttr,mu9,↓wrap_up,↓wrap_down,↓wrap_pred,↓wrap_sub_nat,polK_dead,polK_bdead,polK_racts,polK_muts,polK_alts,hx',hlt,hwi,nonneg_nat,h5,hlen]
    refine⟨(i+1,ins.set i ⟨3,((i+1:Nat):Int),0,0,[]⟩),⟨hil,hK.set hx (by simp) (by have:=hxl (.inl h5);simp[okIns];omega) (.inr (by have:=hxl (.inl h5);omega))⟩,by simp only;omega,?_⟩
    simp only
    rw[← hms]
    exact prep_to rfl rfl (hk4 (i+1)) (hun ⟨3,((i+1:Nat):Int),0,0,[]⟩) rfl
   ·by_cases h1:x.op=1
    ·by_cases hs:0 < x.set.length
     ·obtain⟨p,hp⟩:∃ p,x.set=[p]:=by
       cases hq:x.set with
       | nil=>rw[hq]at hs;cases hs
       | cons p m=>cases m with
         | nil=>exact⟨p,rfl⟩
         | cons q m=>rw[hq]at hxs;simp at hxs
      have hP1:=hP i 3 (by omega)
      have hP2:=hP (i+1:Nat) 5 (by omega)
      have hb1:=pick_lt (l:=l) (i:=i) (m:=3) (by omega)
      have hb2:=pick_lt (l:=l) (i:=(i+1:Nat)) (m:=5) (by omega)
      simp +contextual (disch:=omega) only[Tryz.f9,dd9,go_sem,simprocAttr,mu9,↓wrap_up,↓wrap_down,↓wrap_pred,↓wrap_sub_nat,polK_dead,polK_bdead,polK_racts,polK_muts,polK_alts,hx',hlt,hwi,nonneg_nat,h1,hlen,hp,hP1,hP2]
      refine⟨(i+1,ins.set i ⟨1,x.x,x.y,x.n,[(97+pickI l i 3,97+pickI l i 3+pickI l (i+1:Nat) 5 / 4)]⟩),⟨hil,hK.set hx (by simp) (by
       simp[okIns,h1]at hxo ⊢
       have e7:pickI l ((i:Int)+1) 5=pickI l ((i+1:Nat):Int) 5:=rfl
       have hb3:=hb2
       rw[← e7]at hb3
       refine⟨hxo.1,?_⟩
       simp[refSpans,badAt,lastOk]
       split<;>omega) (.inl h1.symm)⟩,by simp only;omega,?_⟩
      simp only
      rw[← hms]
      exact prep_to rfl rfl (hk4 (i+1)) (hun ⟨1,x.x,x.y,x.n,[(97+pickI l i 3,97+pickI l i 3+pickI l (i+1:Nat) 5 / 4)]⟩) rfl
     ·have hs0:x.set=[]:=List.length_eq_zero_iff.1 (by omega)
      simp +contextual (disch:=omega) only[Tryz.f9,dd9,go_sem,simprocAttr,mu9,↓wrap_up,↓wrap_down,↓wrap_pred,↓wrap_sub_nat,polK_dead,polK_bdead,polK_racts,polK_muts,polK_alts,hx',hlt,hwi,nonneg_nat,h1,hs0,hlen]
      refine⟨(i+1,ins.set i ⟨1,x.x,x.y,x.n,[]⟩),⟨hil,hK.set hx (by simp) (by
       have e:x=⟨1,x.x,x.y,x.n,[]⟩:=by cases x;simp_all
       rw[← e];exact hxo) (.inl h1.symm)⟩,by simp only;omega,?_⟩
      simp only
      rw[← hms]
      exact prep_to rfl rfl (hk4 (i+1)) (hun ⟨1,x.x,x.y,x.n,[]⟩) rfl
    ·simp +contextual (disch:=omega) only[Tryz.f9,dd9,go_sem,simprocAttr,mu9,↓wrap_up,↓wrap_down,↓wrap_pred,↓wrap_sub_nat,polK_dead,polK_bdead,polK_racts,polK_muts,polK_alts,hx',hlt,hwi,nonneg_nat,h5,h1,hlen]
     refine⟨(i+1,ins.set i x),⟨hil,hK.set hx hxs hxo (.inl rfl)⟩,by simp only;omega,?_⟩
     simp only
     rw[← hms]
     exact prep_to rfl rfl (hk4 (i+1)) (hun x) rfl
  ·have hlt:((i:Int) < ((g.ins.length:Nat):Int))=False:=eq_false (by omega)
   simp +contextual (disch:=omega) only[Tryz.f9,dd9,go_sem,simprocAttr,mu9,↓wrap_up,↓wrap_down,↓wrap_pred,↓wrap_sub_nat,polK_dead,polK_bdead,polK_racts,polK_muts,polK_alts,hlt]
   have hf:=fz_allT (id:=4) (tot:=g.ins.length) (ins:=ins) (caps:=g.caps) (runes:=g.runes) (H:=.row 3 [.agg [.ms 4 5 g.ins.length 0 g.ins.length,I g.caps,.bool g.runes]] 0::(k9H g.ins g.caps g.runes ins x0).tail) rfl hlen.symm
   exact⟨_,⟨⟨ins,g.caps,g.runes⟩,⟨by simp only;omega,hset,by have:=hg.caps;simp only[In64];omega⟩,by simp only;omega,hK.valid hg,rfl⟩,hf⟩
 ·exact prep_to rfl rfl (hk4 0) (k9_under g.ins g.caps g.runes g.ins x0) rfl
end
end Go.Ev
