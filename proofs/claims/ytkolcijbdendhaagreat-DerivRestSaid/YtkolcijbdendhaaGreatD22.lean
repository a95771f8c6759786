/- Valid and regular trees are as they should be. -/
import Derived.Test.YtkolcijbdendhaaGreatD21
set_option linter.unusedVariables false
set_option linter.unusedSimpArgs false
open List (all_append append_assoc cons_append getElem?_append_left getElem?_eq_getElem getElem?_of_mem getElem?_set_ne getElem?_set_self length_append map_cons map_take mem_append mem_cons mem_of_getElem? mem_singleton nil_append take_of_length_le)
open Bool (and_eq_true)
open Nat (le_refl lt_or_ge sub_self zero_add zero_le)
open Go.Proofs Go.RowKit Go.IntWalk
set_option maxHeartbeats 4000000
set_option maxRecDepth 100000
namespace Go.Ev
theorem OL:∀ {l:List (Int×Int)},(∀ p∈l,p.1<=p.2)->(∀(i:Nat) (p q:Int×Int),l[i]?=some p->l[i+1]?=some q->p.2+2<=q.1)->l.Pairwise fun p q=>p.2+2<=q.1
 | [],_,_=>.nil
 | [x],_,_=>by simp
 | x::y::l,hv,h=>by
   have h1:=h 0 x y rfl rfl;have ih:=OL (l:=y::l) (fun p hp=>hv p (List.mem_cons_of_mem _ hp)) fun i p q hp hq=>h (i+1) p q (by simpa using hp) (by simpa using hq);refine List.pairwise_cons.2 ⟨fun z hz=>?_,ih⟩;rcases mem_cons.1 hz with rfl|hz
   ·exact h1
   ·have a:=(List.pairwise_cons.1 ih).1 z hz;have b:=hv y (by simp);omega
theorem Pd {s:List (Int×Int)}{top:Int} (h:spansG s top=true) (ht:top<=1114111):SetN s:=by
 simp only[spansG,and_eq_true,decide_eq_true_eq,Bool.not_eq_true']at h;obtain⟨hl,hb⟩:=h;rw[List.any_eq_false]at hb;have hb':∀ k,k<s.length->badS s top k=false:=fun k hk=>by simpa using hb k (List.mem_range.2 hk)
 have hg:∀(k:Nat) (p:Int×Int),s[k]?=some p->0<=p.1/\p.1<=p.2/\p.2<=top:=fun k p hp=>Jk hp (hb' k (List.getElem?_eq_some_iff.1 hp).1);refine⟨OL (fun p hp=>?_) fun i p q hp hq=>?_,fun p hp=>?_,hl⟩
 ·obtain⟨k,hk⟩:=getElem?_of_mem hp;exact(hg k p hk).2.1
 ·have h1:=hg (i+1) q hq;have h2:=Ix (top:=top) hq hp (by omega);rw[hb' (i+1) (List.getElem?_eq_some_iff.1 hq).1]at h2;have:=of_decide_eq_false h2.symm;omega
 ·obtain⟨k,hk⟩:=getElem?_of_mem hp;have:=hg k p hk;exact⟨this.1,this.2.1,by omega⟩
theorem SG {caps top:Int} (ht:top<=1114111):∀(N:Nat) (t:Re),t.wt<=N->wholeG caps top t=true->regG t=true->OkD t:=by
 intro N
 induction N with
 | zero=>intro t h;have:=t.wt_pos;omega
 | succ N ihN=>
   intro t h hw hr;obtain⟨op,set,kids,mn,mx,md,n,neg⟩:=t;have hwt:1+set.length+Re.wtL kids=(Re.mk op set kids mn mx md n neg).wt:=by simp[Re.wt]
   rw[wholeG,and_eq_true,Af]at hw;obtain⟨hf,hk⟩:=hw;rw[regG,and_eq_true,DV]at hr;obtain⟨hr1,hr2⟩:=hr;have hrk:∀ k∈kids,regG k=true:=fun k hk=>by
    have h2:(kids.any fun k=>!regG k)=false:=by simpa using hr2
    have:=List.any_eq_false.1 h2 k hk
    simpa using this
   have ih:∀ k∈kids,OkD k:=fun k hk'=>ihN k (by have:=Re.wtL_mem hk';omega) (hk k hk') (hrk k hk');simp only[formedG,and_eq_true,decide_eq_true_eq]at hf;obtain⟨⟨⟨⟨⟨⟨f1,f2⟩,f3⟩,f4⟩,f5⟩,f6⟩,f7⟩:=hf;have hneg:∀(h7:op≠7) (h8:op≠8),neg=false:=fun h7 h8=>by
    cases neg with
    | false=>rfl
    | true=>simp[h7,h8]at f7
   have hset:op≠1->set=[]:=fun h1=>by
    rw[if_neg h1]at f4;exact List.length_eq_zero_iff.1 (by simpa using f4)
   have hmm:op≠4->mn=0/\mx=0/\md=0:=fun h4=>by
    rw[if_neg h4]at f5
    simpa [and_eq_true,and_assoc] using f5
   have hops:op=0∨op=1∨op=2∨op=3∨op=4∨op=5:=by
    simp only[Bool.or_eq_true,decide_eq_true_eq,and_eq_true]at hr1;omega
   rcases hops with rfl|rfl|rfl|rfl|rfl|rfl
   ·obtain⟨rfl,rfl,rfl⟩:=hmm (by omega);obtain rfl:=hset (by omega);obtain rfl:=hneg (by omega) (by omega);have hk0:kids=[]:=List.length_eq_zero_iff.1 (by simpa [kidsG] using f3);have hn:n=0:=by simpa using f6
    subst hk0;subst hn;exact .empty
   ·obtain⟨rfl,rfl,rfl⟩:=hmm (by omega);obtain rfl:=hneg (by omega) (by omega);have hk0:kids=[]:=List.length_eq_zero_iff.1 (by simpa [kidsG] using f3);have hn:n=0:=by simpa using f6
    subst hk0;subst hn;rw[if_pos rfl]at f4;exact .set set (Pd f4 ht)
   ·obtain⟨rfl,rfl,rfl⟩:=hmm (by omega);obtain rfl:=hset (by omega);obtain rfl:=hneg (by omega) (by omega);have hn:n=0:=by simpa using f6
    subst hn;exact .cat kids ih
   ·obtain⟨rfl,rfl,rfl⟩:=hmm (by omega);obtain rfl:=hset (by omega);obtain rfl:=hneg (by omega) (by omega);have hn:n=0:=by simpa using f6
    subst hn;exact .alt kids ih
   ·obtain rfl:=hset (by omega);obtain rfl:=hneg (by omega) (by omega);have hn:n=0:=by simpa using f6
    have hk1:kids.length=1:=by simpa [kidsG] using f3
    obtain⟨k,rfl⟩:=List.length_eq_one_iff.1 hk1;subst hn;rw[if_pos rfl]at f5;simp only[repG,and_eq_true,decide_eq_true_eq,Bool.or_eq_true,beq_iff_eq]at f5;obtain⟨⟨⟨⟨g1,g2⟩,g3⟩,g4⟩,g5⟩:=f5;refine .rep k mn mx md (ih k (by simp)) ⟨g1,g2⟩ ?_;rcases g5 with e|⟨⟨e1,e2⟩,e3⟩
    ·exact .inl e
    ·exact .inr ⟨e1,e2,e3⟩
   ·obtain⟨rfl,rfl,rfl⟩:=hmm (by omega);obtain rfl:=hset (by omega);obtain rfl:=hneg (by omega) (by omega);have hk1:kids.length=1:=by simpa [kidsG] using f3
    obtain⟨k,rfl⟩:=List.length_eq_one_iff.1 hk1;exact .cap k n (ih k (by simp))
end Go.Ev
namespace Go.Ev
attribute [local go_sem] A8 BI bndO bnd evEq eqCells not_false_eq_true not_true_eq_false toList_some Array.size_empty length_append List.map_append tySzE List.head?_drop Nat.mul_one As A1 Am At Au Ag
section
attribute [local go_sem] evAppend evBin AV.cells
def badX (top x:Int):Bool:=decide (x<0)||decide (top<x)
def wholeA (p:Pat) (xs:List Int):AV:=if chkP p≠0 then .tup [.bool false,I (chkP p)] else if 65536<xs.length then .tup [.bool false,I 4] else if(xs.any (badX (topI p.runes)))=true then .tup [.bool false,I 5] else wA (resW p.re xs)
theorem HH {p:Pat} (h:chkP p=0):OkD p.re/\p.re.size<=256/\wholeG p.caps (topI p.runes) p.re=true:=by
 unfold chkP at h;split at h
 ·rename_i h1;exact absurd h h1
 ·rename_i h1;split at h
  ·rename_i hr;have hv:validP p=0:=by simpa using h1
   unfold validP at hv;split at hv
   ·cases hv
   ·rename_i h2;split at hv
    ·cases hv
    ·rename_i h3;simp only[not_or]at h3;have hwg:wholeG p.caps (topI p.runes) p.re=true:=by simpa using h3.2.2
     exact⟨SG (I8 _) _ p.re (le_refl _) hwg hr,by omega,hwg⟩
  ·cases h
def KnOk (ts:List Re) (fs:List (AV×AV)):Prop:=∀ k v,(k,v)∈fs->∃(a b:Nat) (x:Int) (ta tb:Re),k=.agg [I a,I x]/\v=I b/\ts[a]?=some ta/\ts[b]?=some tb/\stepR x ta=some tb
theorem Qc {a b x y:Int}:AV.beq (.agg [I a,I x]) (.agg [I b,I y])=true->a=b/\x=y:=by
 intro h;have:=AV.eq_of_beq _ _ h;simp at this;exact this
theorem MX {ts:List Re}:∀ {fs:List (AV×AV)}{a:Nat}{x:Int}{v:AV}{ta:Re},KnOk ts fs->ts[a]?=some ta->findMp (.agg [I a,I x]) fs=some v->∃(b:Nat) (tb:Re),v=I b/\ts[b]?=some tb/\stepR x ta=some tb
 | [],a,x,v,ta,_,_,h=>by cases h
 | (k,u)::fs,a,x,v,ta,hk,ha,h=>by
   simp only[findMp]at h;split at h
   ·rename_i hb;cases h;obtain⟨a',b,x',ta',tb,rfl,rfl,h1,h2,h3⟩:=hk k u (.head _);obtain⟨e1,e2⟩:=Qc hb;obtain rfl:a' = a:=by omega
    subst e2;rw[ha]at h1;obtain rfl:=Option.some.inj h1;exact⟨b,tb,rfl,h2,h3⟩
   ·exact MX (fun k v hkv=>hk k v (.tail _ hkv)) ha h
theorem Le {ts:List Re}{x0 v0:AV}:∀ {fs:List (AV×AV)},KnOk ts fs->(∃(a b:Nat) (x:Int) (ta tb:Re),x0=.agg [I a,I x]/\v0=I b/\ts[a]?=some ta/\ts[b]?=some tb/\stepR x ta=some tb)->KnOk ts (updMp x0 v0 fs)
 | [],_,h=>fun k v hkv=>by
   simp only[updMp,mem_singleton,Prod.mk.injEq]at hkv;rw[hkv.1,hkv.2];exact h
 | (k',u')::fs,hk,h=>fun k v hkv=>by
   simp only[updMp]at hkv;split at hkv
   ·rename_i hb;rcases mem_cons.1 hkv with e|e
    ·simp only[Prod.mk.injEq]at e;rw[e.1,e.2,AV.eq_of_beq _ _ hb];exact h
    ·exact hk k v (.tail _ e)
   ·rcases mem_cons.1 hkv with e|e
    ·exact hk k v (e ▸ .head _)
    ·exact Le (fun k v hkv=>hk k v (.tail _ hkv)) h k v e
theorem P7 {ts:List Re}{fs:List (AV×AV)} (h:KnOk ts fs) (t:Re):KnOk (ts++[t]) fs:=fun k v hkv=>by
 obtain⟨a,b,x,ta,tb,h1,h2,h3,h4,h5⟩:=h k v hkv;exact⟨a,b,x,ta,tb,h1,h2,by rw[getElem?_append_left (List.getElem?_eq_some_iff.1 h3).1];exact h3,by rw[getElem?_append_left (List.getElem?_eq_some_iff.1 h4).1];exact h4,h5⟩
abbrev KT:KK:=.flat 79 [some .i64,some .i64]
abbrev whH (rp rt:MB) (ts:List Re) (fs:List (AV×AV)) (K:List MB):List MB:=rp::rt::.mp .str (entN ts 0)::.row 2 [.agg [.ms 4 8 ts.length 0 ts.length,.mpr 2]] 0::.row 8 (ts.map reAV) 0::.mp KT fs::K
theorem LF (rp rt:MB) (ts:List Re) (fs:List (AV×AV)) (K:List MB):StH 3 4 2 ts (whH rp rt ts fs K):=⟨rfl,rfl,rfl,by decide,by decide,by decide⟩
theorem n28 (rp rt:MB) (ts:List Re) (fs:List (AV×AV)) (K:List MB) {t:Re} (hw:t.wt<=100000) (hN:NF t) (hl:ts.length<=100000) :
  ∃(b:Nat) (ts':List Re),call Pg pol1 28 [.rf 3 1 0 0,reAV t] (whH rp rt ts fs K)=some (I b,whH rp rt ts' fs K)/\ts'[b]?=some t/\(ts' = ts∨ts' = ts++[t]):=by
 rcases O4 t ts 0 with ⟨k,h1,h2⟩|⟨h1,h2⟩
 ·rw[zero_add]at h2;exact⟨k,ts,Mk (LF rp rt ts fs K) hw hN h2,h1,.inl rfl⟩
 ·exact⟨ts.length,ts++[t],F5 (LF rp rt ts fs K) hw hN hl h1 h2,by simp,.inr rfl⟩
theorem d17 (p:Pat) (xs:List Int) (hw:p.re.wt<=1000000) (hx:xs.length<=1000∨65536<xs.length) (hxb:xs.length<=1000000000) (H:List MB):call Pg pol1 17 [patAV p,.sl false (xs.map I)] H=some (wholeA p xs,H):=by
 have h23:=d23 p hw;have h26:=d26 p;have hck:=HH (p:=p);have hplA:AV.plain (wholeA p xs)=true:=by
  unfold wholeA;split
  ·rfl
  ·split
   ·rfl
   ·split
    ·rfl
    ·cases resW p.re xs<;>rfl
 have hA:wholeA p xs=if chkP p≠0 then .tup [.bool false,I (chkP p)] else if 65536<xs.length then .tup [.bool false,I 4] else if(xs.any (badX (topI p.runes)))=true then .tup [.bool false,I 5] else wA (resW p.re xs):=rfl
 obtain⟨re,caps,runes⟩:=p;have hl8:=AH re;have htk8:∀ l,List.take 8 (reC re++l)=reC re:=fun l=>by
  rw[List.take_append_of_le_length (by omega)];exact take_of_length_le (by omega)
 have htk10:List.take 10 (reC re++[I caps,.bool runes])=reC re++[I caps,.bool runes]:=take_of_length_le (by simp[hl8]);have hall:=AL re;have hpc:=A9 ⟨re,caps,runes⟩;refine AS Tryz.func17 rfl rfl rfl rfl rfl rfl (fun _=>rfl) (by simp[AV.plainL,AV.plain,AJ];exact A9 _) hplA ?_ H;rw[hA];simp only at hck hw;by_cases hc:chkP ⟨re,caps,runes⟩=0
 ·rw[if_neg (by simpa using hc)];obtain⟨hok,hsz,hwh⟩:=hck hc;rw[hc]at h23;by_cases hbig:65536<xs.length
  ·have hbig':(65536:Int)<(xs.length:Int):=by omega
   rw[if_pos hbig];simp +contextual -implicitDefEqProofs (disch:=omega) only[Tryz.f17,dd17,go_sem,simprocAttr,mu17,↓AD,↓AC,↓AB,↓AA,h23,hbig',hl8,htk8,htk10,hall,all_append];exact fzEq rfl rfl
  ·have hbig':¬ (65536:Int)<(xs.length:Int):=by omega
   rw[if_neg hbig];simp +contextual -implicitDefEqProofs (disch:=omega) only[Tryz.f17,dd17,go_sem,simprocAttr,mu17,↓AD,↓AC,↓AB,↓AA,h23,hbig',hl8,htk8,htk10,hall,all_append];refine AY (M:=(mskOf (pol1.mask 17) (pol1.gc 17) (pol1.acts 17) 0 7)) (by rfl) xs.length (fun i=>(⟨122,[(30,I i),(29,I xs.length),(28,.sl false (xs.map I)),(2,.rf 0 1 0 0),(1,.sl false (xs.map I))],[.row 10 [.agg (reC re++[I caps,.bool runes])] 0]⟩:St)) (fun i=>(xs.take i).any (badX (topI runes))=false) ?_ ?_ rfl _ (AR (n:=1) rfl rfl (by rfl) (by rfl) (by simp[AV.underL,AV.under,AE _ _ (AJ xs)]) (by simp[MB.under,AV.underL,AV.under,AE _ _ hpc]))
   ·intro i hi hinv;obtain⟨x,hxi⟩:∃ x,xs[i]?=some x:=⟨_,getElem?_eq_getElem hi⟩;have hx':(xs.map I)[i]?=some (I x):=by simp[hxi]
    have hlt:(i:Int)<(xs.length:Int):=by omega
    have hst:(xs.take (i+1)).any (badX (topI runes))=badX (topI runes) x:=by rw[AX hxi,List.any_append,hinv];simp
    have hPC:∀ b:Bool,(xs.take (i+1)).any (badX (topI runes))=b->b=true->xs.any (badX (topI runes))=true:=fun b h1 h2=>by
     rw[<- List.take_append_drop (i+1) xs,List.any_append,h1,h2];rfl
    simp only at h26;generalize topI runes=top at *;by_cases x0:x<0
    ·have hb:badX top x=true:=by simp[badX,x0]
     rw[if_pos (hPC _ hst hb)];simp +contextual -implicitDefEqProofs (disch:=omega) only[Tryz.f17,dd17,go_sem,simprocAttr,mu17,↓AD,↓AC,↓AB,↓AA,hx',hlt,x0];exact fzEq rfl rfl
    ·by_cases x1:top<x
     ·have hb:badX top x=true:=by simp[badX,x1]
      rw[if_pos (hPC _ hst hb)];simp +contextual -implicitDefEqProofs (disch:=omega) only[Tryz.f17,dd17,go_sem,simprocAttr,mu17,↓AD,↓AC,↓AB,↓AA,hx',hlt,x0,x1,h26,hl8,htk10,hall,all_append];exact fzEq rfl rfl
     ·have hb:badX top x=false:=by simp[badX,x0,x1]
      rw[hb]at hst;simp +contextual -implicitDefEqProofs (disch:=omega) only[Tryz.f17,dd17,go_sem,simprocAttr,mu17,↓AD,↓AC,↓AB,↓AA,hx',hlt,x0,x1,h26,hl8,htk10,hall,all_append];refine⟨hst,?_⟩;exact AR (n:=1) rfl rfl (by rfl) (by rfl) (by simp[AV.underL,AV.under,AE _ _ (AJ xs)]) (by simp[MB.under,AV.underL,AV.under,AE _ _ hpc])
   ·intro hinv;rw[List.take_length]at hinv;rw[hinv];have h65:=hok.wt65;have h27:=d27 re (by omega) hok;rw[if_neg (by simp)];unfold resW;cases hbd:badR re with
    | true=>
      rw[hbd,if_pos rfl]at h27;rw[if_pos rfl];simp +contextual -implicitDefEqProofs (disch:=omega) only[Tryz.f17,dd17,go_sem,simprocAttr,mu17,↓AD,↓AC,↓AB,↓AA,h27,hl8,htk8,htk10,hall,all_append,AH,AI,AL];exact fzEq rfl rfl
    | false=>
      rw[hbd,if_neg (by simp)]at h27;rw[if_neg (by simp)];have hS0:=FN hok hsz hbd;generalize nf re=t0 at *;have hlen:xs.length<=1000:=by omega
      have hfind0:findMp (.str (nameS t0)) (entN [] 0)=none:=rfl;have n0:∀ rp rt:MB,call Pg pol1 28 [.rf 3 1 0 0,reAV t0] [rp,rt,.mp .str [],.row 2 [.agg [.ms 4 8 0 0 0,.mpr 2]] 0,.row 8 [] 0,.mp KT []]=some (I 0,[rp,rt,.mp .str (entN [t0] 0),.row 2 [.agg [.ms 4 8 1 0 1,.mpr 2]] 0,.row 8 [reAV t0] 0,.mp KT []]):=fun rp rt=>
       F5 (LF rp rt [] [] []) (by have:=hS0.wt;omega) hS0.nf (by simp) (by simp) hfind0
      have hplK:∀(ts:List Re) (fs:List (AV×AV)),KnOk ts fs->MB.underE 6 fs=true:=fun ts fs h=>by
       clear h27 n0 hfind0
       induction fs with
       | nil=>rfl
       | cons kv fs ih=>
         obtain⟨k,v⟩:=kv;obtain⟨a,b,x,ta,tb,rfl,rfl,_⟩:=h k v (.head _);simp[MB.underE,AV.under,AV.underL,ih fun k v hkv=>h k v (.tail _ hkv)]
      simp +contextual -implicitDefEqProofs (disch:=omega) only[Tryz.f17,dd17,go_sem,simprocAttr,mu17,↓AD,↓AC,↓AB,↓AA,h27,n0,hl8,htk8,htk10,hall,all_append,AH,AI,AL]
      refine Ft (σ:=Nat×List Re×Nat×List (AV×AV)) (M:=(mskOf (pol1.mask 17) (pol1.gc 17) (pol1.acts 17) 0 19)) (by rfl) (fun s=>(⟨122,[(61,I s.1),(60,I xs.length),(59,.sl false (xs.map I)),(13,I s.2.2.1),(12,.mpr 5),(11,.rf 3 1 0 0)],whH (.row 10 [.agg (reC re++[I caps,.bool runes])] 0) (.row 8 [reAV t0] 0) s.2.1 s.2.2.2 []⟩:St))
       (fun s=>s.1<=xs.length/\s.2.1.length<=s.1+1/\(∀ t∈s.2.1,StT t)/\KnOk s.2.1 s.2.2.2/\∃ r,s.2.1[s.2.2.1]?=some r/\runR (xs.take s.1) t0=some r) (fun s=>xs.length-s.1) (0,[t0],0,[]) ?_ ⟨zero_le _,by simp,fun t ht=>?_,(fun k v h=>(by cases h)),t0,rfl,rfl⟩ _ ?_
      ·rintro⟨i,ts,now,fs⟩ ⟨h1,h2,h3,h4,r,h5,h6⟩;simp only at h1 h2 h3 h4 h5 h6;have hS:StT r:=h3 r (mem_of_getElem? h5);by_cases hl:i<xs.length
       ·obtain⟨x,hxi⟩:∃ x,xs[i]?=some x:=⟨_,getElem?_eq_getElem hl⟩;have hx':(xs.map I)[i]?=some (I x):=by simp[hxi]
        have hl':(i:Int)<(xs.length:Int):=by omega
        have hsn:runR (xs.take (i+1)) t0=stepR x r:=by rw[AX hxi,IB,h6];rfl
        have hnl:=(List.getElem?_eq_some_iff.1 h5).1;cases hf:findMp (.agg [I now,I x]) fs with
        | some v=>
          obtain⟨b,tb,rfl,hb1,hb2⟩:=MX h4 h5 hf;rw[hb2]at hsn;simp +contextual -implicitDefEqProofs (disch:=omega) only[Tryz.f17,dd17,go_sem,simprocAttr,mu17,↓AD,↓AC,↓AB,↓AA,hx',hl',hf,whH];refine⟨rfl,(i+1,ts,b,fs),⟨by show i+1<=_;omega,by show ts.length<=i+1+1;omega,h3,h4,tb,hb1,hsn⟩,by show xs.length-(i+1)<xs.length-i;omega,?_⟩;exact AR (n:=6) rfl rfl (by rfl) (by rfl) (by simp[AV.underL,AV.under,AE _ _ (AJ xs)]) (by simp[MB.under,AV.underL,AV.under,AE _ _ hpc,AE _ _ (AM t0),AE _ _ (AG ts),Bk,MB.underE,hplK _ _ h4])
        | none=>
          have hnow:(ts.map reAV)[now]?=some (reAV r):=by simp[h5]
          have h29:=d29 hS.size hS.nf.ok 9 1114111 (hS.nf.whole 9) x;cases hs:stepR x r with
          | none=>
            rw[hs]at h29 hsn;have hn:runR xs t0=none:=by
             rw[<- List.take_append_drop (i+1) xs];exact IC hsn
            rw[hn];unfold resA at h29;simp +contextual -implicitDefEqProofs (disch:=omega) only[Tryz.f17,dd17,go_sem,simprocAttr,mu17,↓AD,↓AC,↓AB,↓AA,hx',hl',hf,h29,hnow,whH,AH,AI,AL];exact⟨rfl,fzEq rfl rfl⟩
          | some q=>
            rw[hs]at h29 hsn;have hS2:=ER hS hs;unfold resA at h29;have hd8:(reC q).drop 8=[]:=List.drop_of_length_le (by rw[AH];omega);obtain⟨b,ts',hc28,hb1,hb2⟩:=n28 (.row 10 [.agg (reC re++[I caps,.bool runes])] 0) (.row 8 [reAV t0] 0) ts fs [.row 8 [reAV q] 0] (by have:=hS2.wt;omega) hS2.nf (by omega);have hlt':ts'.length<=i+2:=by
             rcases hb2 with rfl|rfl
             ·omega
             ·simp;omega
            have hbl:=(List.getElem?_eq_some_iff.1 hb1).1;have hno:¬ (1024:Int)<(ts'.length:Int):=by omega
            have hk':KnOk ts' (updMp (.agg [I now,I x]) (I b) fs):=by
             rcases hb2 with rfl|rfl
             ·exact Le h4 ⟨now,b,x,r,q,rfl,rfl,h5,hb1,hs⟩
             ·exact Le (P7 h4 _) ⟨now,b,x,r,q,rfl,rfl,by rw[getElem?_append_left hnl];exact h5,hb1,hs⟩
            simp +contextual -implicitDefEqProofs (disch:=omega) only[Tryz.f17,dd17,go_sem,simprocAttr,mu17,↓AD,↓AC,↓AB,↓AA,hx',hl',hf,h29,hnow,hc28,hno,hd8,whH,AH,AI,AL];refine⟨rfl,rfl,(i+1,ts',b,updMp (.agg [I now,I x]) (I b) fs),⟨by show i+1<=_;omega,hlt',fun t ht=>?_,hk',q,hb1,hsn⟩,by show xs.length-(i+1)<xs.length-i;omega,?_⟩
            ·rcases hb2 with rfl|rfl
             ·exact h3 t ht
             ·rcases mem_append.1 ht with h|h
              ·exact h3 t h
              ·obtain rfl:=mem_singleton.1 h;exact hS2
            ·exact AR (n:=6) rfl rfl (by rfl) (by rfl) (by simp[AV.underL,AV.under,AE _ _ (AJ xs)]) (by simp[MB.under,AV.underL,AV.under,AE _ _ hpc,AE _ _ (AM t0),AE _ _ (AG ts'),Bk,MB.underE,hplK _ _ hk'])
       ·have hl':¬ (i:Int)<(xs.length:Int):=by omega
        have hnow:(ts.map reAV)[now]?=some (reAV r):=by simp[h5]
        rw[take_of_length_le (by omega)]at h6;rw[h6];have h21:=f105 r (by have:=hS.wt;omega) 9 1114111 (hS.nf.whole 9);unfold wA;simp +contextual -implicitDefEqProofs (disch:=omega) only[Tryz.f17,dd17,go_sem,simprocAttr,mu17,↓AD,↓AC,↓AB,↓AA,hl',h21,hnow,whH,AH,AI,AL];have hnl:=(List.getElem?_eq_some_iff.1 h5).1;exact⟨by omega,fzEq rfl rfl⟩
      ·simp only[mem_singleton]at ht;subst ht;exact hS0
      ·exact AR (n:=6) rfl rfl (by rfl) (by rfl) (by simp[AV.underL,AV.under,AE _ _ (AJ xs)]) (by simp[MB.under,AV.underL,AV.under,AE _ _ hpc,AE _ _ (AM t0),Bk,MB.underE])
 ·rw[if_pos hc];simp +contextual -implicitDefEqProofs (disch:=omega) only[Tryz.f17,dd17,go_sem,simprocAttr,mu17,↓AD,↓AC,↓AB,↓AA,h23,hc,hl8,htk8,htk10,hall,all_append];exact fzEq rfl rfl
end
section
abbrev U (n:Int):AV:=.int .u64 n
abbrev wAV (w:List Int):AV:=.agg (w.map U)
theorem PG:∀ {a b:List Int},AV.beqL (a.map U) (b.map U)=true↔a=b
 | [],[]=>by simp[AV.beqL]
 | [],_::_=>by simp[AV.beqL]
 | _::_,[]=>by simp[AV.beqL]
 | x::a,y::b=>by
   have:=@PG a b;simp[AV.beqL,AV.beq,this]
theorem F7 {a b:List Int}:AV.beq (wAV a) (wAV b)=true↔a=b:=PG
def ent:Nat->List (List Int)->List (AV×AV)
 | _,[]=>[]
 | i,w::ws=>(wAV w,I i)::ent (i+1) ws
theorem KY {w:List Int}:∀ {ws:List (List Int)}{i n:Nat},ws[n]?=some w->(∀ m,ws[m]?=some w->m=n)->findMp (wAV w) (ent i ws)=some (I ((i+n:Nat):Int))
 | [],i,n,h,_=>by simp at h
 | v::ws,i,n,h,hu=>by
   simp only[ent,findMp];by_cases e:v=w
   ·rw[if_pos (F7.2 e)];have:=hu 0 (by simp[e]);subst this;rfl
   ·rw[if_neg (fun h2=>e (F7.1 h2))];cases n with
    | zero=>simp at h;exact absurd h e
    | succ n=>
      rw[KY (ws:=ws) (i:=i+1) (n:=n) (by simpa using h) (fun m hm=>by have:=hu (m+1) (by simpa using hm);omega)];congr 3;omega
theorem E9 {w:List Int}:∀ {ws:List (List Int)}{i:Nat},w ∉ ws->findMp (wAV w) (ent i ws)=none
 | [],i,_=>rfl
 | v::ws,i,h=>by
   simp only[ent,findMp];rw[if_neg (fun h2=>h (by rw[F7.1 h2];simp))];exact E9 fun h2=>h (by simp[h2])
theorem I6 {w:List Int}:∀ {ws:List (List Int)}{i:Nat},w ∉ ws->updMp (wAV w) (I ((i+ws.length:Nat):Int)) (ent i ws)=ent i (ws++[w])
 | [],i,_=>by simp[ent,updMp]
 | v::ws,i,h=>by
   simp only[ent,updMp,cons_append];rw[if_neg (fun h2=>h (by rw[F7.1 h2];simp))];have:=I6 (w:=w) (ws:=ws) (i:=i+1) fun h2=>h (by simp[h2]);rw[<- this];congr 4;simp;omega
theorem Iv (k:IntKind):∀(w:List Int) (n:Nat),w.length=n->cellsOk (List.replicate n (some k)) (w.map (AV.int k))=true
 | [],n,h=>by simp at h;subst h;rfl
 | x::w,n,h=>by
   simp at h;subst h;rw[List.replicate_succ,map_cons];simp only[cellsOk,decide_true,Bool.true_and];exact Iv k w _ rfl
theorem QW {w:List Int} (h:w.length=16):cellsOk [some .u64,some .u64,some .u64,some .u64,some .u64,some .u64,some .u64,some .u64,some .u64,some .u64,some .u64,some .u64,some .u64,some .u64,some .u64,some .u64] (w.map U)=true:=Iv .u64 w 16 h
def clsAV (ids:List Nat) (cls:List Spans):List AV:=List.zipWith (fun id c=>AV.ms id 2 c.length 0 c.length) ids cls
theorem CA {ids:List Nat}{cls:List Spans} (h:ids.length=cls.length):(clsAV ids cls).length=cls.length:=by simp[clsAV,h]
theorem Km {ids:List Nat}{cls:List Spans}{n id:Nat}{c:Spans} (h1:ids[n]?=some id) (h2:cls[n]?=some c):(clsAV ids cls)[n]?=some (.ms id 2 c.length 0 c.length):=by
 simp[clsAV,List.getElem?_zipWith,h1,h2]
theorem Nh {ids:List Nat}{cls:List Spans}{n id:Nat} (h1:ids[n]?=some id) (c:Spans):(clsAV ids cls).set n (.ms id 2 c.length 0 c.length)=clsAV ids (cls.set n c):=by
 refine List.ext_getElem? fun i=>?_;unfold clsAV;rw[List.getElem?_set,List.getElem?_zipWith,List.getElem?_zipWith,List.getElem?_set,List.length_zipWith];by_cases e:n=i
 ·subst e;have hlt:=(List.getElem?_eq_some_iff.1 h1).1;rw[if_pos rfl,if_pos rfl,h1];by_cases h:n<cls.length
  ·rw[if_pos (by omega),if_pos h]
  ·rw[if_neg (by omega),if_neg h]
 ·rw[if_neg e,if_neg e]
theorem Lx {ids:List Nat}{cls:List Spans} (h:ids.length=cls.length) (id:Nat) (c:Spans):clsAV (ids++[id]) (cls++[c])=clsAV ids cls++[.ms id 2 c.length 0 c.length]:=by
 unfold clsAV;rw[List.zipWith_append h];rfl
theorem KG {H:List MB}{id n i k z:Nat}{els:List AV} (h:getRow H i=some (k,els,z)):∃ z',getRow (mark H id n) i=some (k,els,z'):=by
 unfold mark;cases hr:getRow H id with
 | none=>exact⟨z,h⟩
 | some x=>
   obtain⟨k',els',z0⟩:=x;simp only;have hi:=BA h;have hid:=BA hr;unfold getRow;by_cases e:id=i
   ·subst e;rw[h]at hr;cases hr;rw[getElem?_set_self (List.getElem?_eq_some_iff.1 hid).1];exact⟨_,rfl⟩
   ·rw[getElem?_set_ne e,hi];exact⟨z,rfl⟩
theorem Mc (k:Nat):∀(ids:List Nat) (cls:List Spans) (H:List MB),ids.length=cls.length->(∀(n id:Nat) (c:Spans),ids[n]?=some id->cls[n]?=some c->∃ z,getRow H id=some (2,c.map spanAV,z)) ->
  ∃ H',fzL (fzJ (k+1)) (clsAV ids cls) H=some (cls.map setAV,H')
 | [],[],H,_,_=>⟨H,rfl⟩
 | [],_::_,H,h,_=>by simp at h
 | _::_,[],H,h,_=>by simp at h
 | id::ids,c::cls,H,h,hr=>by
   obtain⟨z,h0⟩:=hr 0 id c rfl rfl;have h1:=Mf (n:=k) h0 (List.length_map _) (AF c);obtain⟨H',h2⟩:=Mc k ids cls (mark H id c.length) (by simpa using h) (fun n id' c' a b=>by
    obtain⟨z',h3⟩:=hr (n+1) id' c' (by simpa using a) (by simpa using b);exact KG h3)
   refine⟨H',?_⟩;show fzL (fzJ (k+1)) (.ms id 2 c.length 0 c.length::clsAV ids cls) H=_;simp only[fzL,h1,h2];rfl
structure ClsOk (H:List MB) (ids:List Nat) (cls:List Spans):Prop where
 len:ids.length=cls.length
 out:H[2]?=some (.row 1 (clsAV ids cls) 0)
 rows:∀(n id:Nat) (c:Spans),ids[n]?=some id->cls[n]?=some c->H[id]?=some (.row 2 (c.map spanAV) 0)
 nodup:ids.Nodup
 high:∀ id∈ids,3<=id
theorem ClsOk.fz {H:List MB}{ids:List Nat}{cls:List Spans} (h:ClsOk H ids cls) {n:Nat} (hn:cls.length=n):∃ H',fz (.tup [.ms 2 1 n 0 n,I 0]) H=some (.tup [.sl false (cls.map setAV),I 0],H'):=by
 subst hn;have h0:getRow H 2=some (1,clsAV ids cls,0):=by unfold getRow;rw[h.out]
 obtain⟨H',h1⟩:=Mc 4 ids cls (mark H 2 (0+cls.length)) h.len (fun n id c a b=>KG (z:=0) (by unfold getRow;rw[h.rows n id c a b]));have hl:=CA h.len;refine⟨H',?_⟩;unfold Ev.fz;rw[Md];have h2:fzA (fzJ 6) (.ms 2 1 cls.length 0 cls.length) H=some (.sl false (cls.map setAV),H'):=
  JT h0 hl (by omega) (by rw[List.drop_zero,take_of_length_le (by omega)];exact h1)
 simp only[fzL,h2];rfl
theorem ClsOk.put {H:List MB}{ids:List Nat}{cls:List Spans} (h:ClsOk H ids cls) {i:Nat} (hi:i<2) (x:MB):ClsOk (H.set i x) ids cls:=
 ⟨h.len,by rw[getElem?_set_ne (by omega)];exact h.out,fun n id c a b=>by
   have:=h.high id (mem_of_getElem? a);rw[getElem?_set_ne (by omega)];exact h.rows n id c a b,h.nodup,h.high⟩
theorem Lr (x r:Int) (n:Nat) (h:r=2 ^ n):evBin .xor .u64 x r=some (U (xorW x n)):=by subst h;rfl
theorem Bi {k:IntKind}{a b:Int}:evBin .sub k a b=some (.int k (k.wrap (a-b))):=rfl
theorem Bj {k:IntKind}{a b:Int}:evBin .add k a b=some (.int k (k.wrap (a+b))):=rfl
theorem BZ {k:IntKind}{a b:Int}:evBin .gtr k a b=some (.bool (decide (a > b))):=rfl
theorem Ba {k:IntKind}{a b:Int}:evBin .eql k a b=some (.bool (a==b)):=rfl
theorem Ke (n:Nat) (h:n<=1000000):evBin .quo .i64 (n:Int) 64=some (I ((n / 64:Nat):Int)):=by
 have:IntKind.i64.wrap ((n:Int).tdiv 64)=((n / 64:Nat):Int):=by
  have e:(n:Int).tdiv 64=((n / 64:Nat):Int):=rfl;rw[e,i64_in];omega
 show (if(64:Int)=0 then none else some (I (IntKind.i64.wrap ((n:Int).tdiv 64))))=_;rw[if_neg (by decide),this]
theorem Kd (n:Nat):evBin .rem .i64 (n:Int) 64=some (I ((n % 64:Nat):Int)):=by
 have:(n:Int).tmod 64=((n % 64:Nat):Int):=rfl;show (if(64:Int)=0 then none else some (I ((n:Int).tmod 64)))=_;rw[if_neg (by decide),this]
theorem PZ (n:Nat) (h:n<64):evShift .shl .u64 1 (n:Int)=some (U ((2:Int) ^ n)):=by
 have h1:min (n:Int).toNat IntKind.u64.bits=n:=by show min (n:Int).toNat 64=n;omega
 have h2:(2:Nat) ^ n<2 ^ 64:=Nat.pow_lt_pow_right (by omega) h;have h3:((2 ^ n:Nat):Int)<18446744073709551616:=by
  have h6:(2:Nat) ^ 64=18446744073709551616:=by decide
  rw[h6]at h2;omega
 rw[Int.natCast_pow]at h3;have h4:(0:Int)<=2 ^ n:=Int.pow_nonneg (by omega);have h5:IntKind.u64.wrap (2 ^ n)=2 ^ n:=Int.emod_eq_of_lt h4 h3;show (if(n:Int)<0 then none else some (U (IntKind.u64.wrap (1*2 ^ (min (n:Int).toNat IntKind.u64.bits)))))=_;rw[if_neg (by omega),h1,Int.one_mul,h5]
section split
variable (L:List Spans) (top:Int) (S:List (Int×Int)) (E:List Int)
structure XS where
 k:Nat
 j:Nat
 w:List Int
 ws:List (List Int)
 ids:List Nat
 H:List MB
def KK16:KK:=.flat 90 [some .u64,some .u64,some .u64,some .u64,some .u64,some .u64,some .u64,some .u64,some .u64,some .u64,some .u64,some .u64,some .u64,some .u64,some .u64,some .u64]
structure XI (k j:Nat) (w:List Int) (ws:List (List Int)) (ids:List Nat) (H:List MB):Prop where
 k_le:k<=E.length
 j_le:j<=S.length
 wr:WR w (par (S.take j))
 b0:H[0]?=some (.row 16 [wAV w] 0)
 b1:H[1]?=some (.mp KK16 (ent 0 ws))
 keys:ws.length=(firsts (colK L E top) k).length
 key:∀(n:Nat) (c:List Bool),(firsts (colK L E top) k)[n]?=some c->∃ w,ws[n]?=some w/\WR w fun s=>c.getD s false
 cls:ClsOk H ids (classesA (colK L E top) (pieceA E top) k)
 few:¬ tooBig (colK L E top) (pieceA E top) k
end split
theorem WR.len {w:List Int}{b:Nat->Bool} (h:WR w b):w.length=16:=h.1
theorem HE (L:List Spans) (E:List Int) (top:Int) (k:Nat):(colK L E top k).length=L.length:=by simp[colK,colA]
theorem Ci {L:List Spans}{E:List Int}{top:Int}{k:Nat}{c:List Bool} (h:c∈firsts (colK L E top) k):c.length=L.length:=by
 obtain⟨i,_,rfl⟩:=Cd.1 h;exact HE L E top i
theorem PD {c d:List Bool} (h:c.length=d.length) (hl:c.length<=1024) (he:∀ s,s<1024->c.getD s false=d.getD s false):c=d:=by
 refine List.ext_getElem? fun i=>?_;rcases lt_or_ge i c.length with h1|h1
 ·have:=he i (by omega);simp only[List.getD_eq_getElem?_getD]at this;rw[getElem?_eq_getElem h1,getElem?_eq_getElem (by omega)]at this |-
  simpa using this
 ·rw[List.getElem?_eq_none h1,List.getElem?_eq_none (by omega)]
theorem OI {w:List Int}{i:Nat} (h:i<w.length) (y:Int):List.take i (w.map U)++U y::List.drop (i+1) (w.map U)=(w.set i y).map U:=by
 rw[List.map_set,List.set_eq_take_append_cons_drop,if_pos (by simpa using h)]
theorem XI.tog {L:List Spans}{top:Int}{S:List (Int×Int)}{E:List Int}{k j s:Nat}{w:List Int}{ws:List (List Int)}{ids:List Nat}{H:List MB} (h:XI L top S E k j w ws ids H) {e:Int×Int} (he:S[j]?=some e) (hes:e.2=(s:Int)) (hs:s<1024) {x:Int} (hx:w[s / 64]?=some x) :
  XI L top S E k (j+1) (w.set (s / 64) (xorW x (s % 64))) ws ids (H.set 0 (.row 16 [wAV (w.set (s / 64) (xorW x (s % 64)))] 0)):=by
 have h1:=h.wr.tog hs hx;have h2:par (S.take (j+1))=fun i=>if i=s then !par (S.take j) i else par (S.take j) i:=by
  obtain⟨a,b⟩:=e;simp only at hes;rw[List.take_add_one,he,hes];exact OW _ _ _
 have h0:=(List.getElem?_eq_some_iff.1 h.b0).1;exact⟨h.k_le,(List.getElem?_eq_some_iff.1 he).1,by rw[h2];exact h1,getElem?_set_self h0,by rw[getElem?_set_ne (by omega)];exact h.b1,h.keys,h.key,h.cls.put (by omega) _,h.few⟩
structure Upd (H H1:List MB) (id:Nat) (r:MB):Prop where
 at_:H1[id]?=some r
 len:H.length<=H1.length
 same:∀ i,i≠id->i<H.length->H1[i]?=H[i]?
theorem Qz {H:List MB}{id n:Nat}{O:Spans}{p:Int×Int} (hr:H[id]?=some (.row 2 (O.map spanAV) 0)) (hn:O.length=n) (h0:0<n) (hl:n<=1000000) (hO:∀ q∈O,q.2<=1114111) (hp:0<=p.1/\p.1<=p.2/\p.2<=1114111) (hq:∀ q∈O,0<=q.2) :
  ∃ H1,call Pg pol1 51 [.ms id 2 n 0 n,.agg [I p.1,I p.2]] H=some (.ms id 2 (addI O p).length 0 (addI O p).length,H1)/\Upd H H1 id (.row 2 ((addI O p).map spanAV) 0):=by
 have hlt:=(List.getElem?_eq_some_iff.1 hr).1;refine⟨_,sf68 hr hn h0 (by omega) hO hp hq,?_,by simp,fun i hi h=>?_⟩
 ·rw[getElem?_append_left (by rw[List.length_set];exact hlt),getElem?_set_self hlt]
 ·rw[getElem?_append_left (by rw[List.length_set];exact h),getElem?_set_ne (Ne.symm hi)]
theorem OJ (H:List MB) (p:Int×Int):∃ H1,call Pg pol1 51 [.sl true [],.agg [I p.1,I p.2]] H=some (.ms (H.length+1) 2 1 0 1,H1)/\Upd H H1 (H.length+1) (.row 2 ([p].map spanAV) 0):=by
 refine⟨_,R8 H p,?_,by simp,fun i hi h=>?_⟩
 ·rw[append_assoc,List.getElem?_append_right (by omega)];simp
 ·rw[append_assoc,getElem?_append_left h]
theorem ClsOk.upd {H H1:List MB}{ids:List Nat}{cls:List Spans} (h:ClsOk H ids cls) {n id:Nat}{c:Spans} (hn:ids[n]?=some id) (hu:Upd H H1 id (.row 2 (c.map spanAV) 0)) :
  ClsOk (H1.set 2 (.row 1 ((clsAV ids cls).set n (.ms id 2 c.length 0 c.length)) 0)) ids (cls.set n c):=by
 have hid:=h.high id (mem_of_getElem? hn);have h2:=(List.getElem?_eq_some_iff.1 h.out).1;have hl:=hu.len;refine⟨by rw[List.length_set];exact h.len,?_,fun m id' c' a b=>?_,h.nodup,h.high⟩
 ·rw[getElem?_set_self (by omega),Nh hn]
 ·have hid':=h.high id' (mem_of_getElem? a);rw[getElem?_set_ne (by omega)];rw[List.getElem?_set]at b;by_cases e:n=m
  ·subst e;rw[hn]at a;obtain rfl:=Option.some.inj a;rw[if_pos rfl]at b;split at b
   ·rw[<- Option.some.inj b];exact hu.at_
   ·cases b
  ·rw[if_neg e]at b;have hne:id'≠id:=fun e2=>by
    obtain⟨l1,q1⟩:=List.getElem?_eq_some_iff.1 hn;obtain⟨l2,q2⟩:=List.getElem?_eq_some_iff.1 a;have hnd:=List.pairwise_iff_getElem.1 h.nodup;rcases Nat.lt_or_gt_of_ne e with h4|h4
    ·exact hnd n m l1 l2 h4 (q1.trans (e2.symm.trans q2.symm))
    ·exact hnd m n l2 l1 h4 (q2.trans (e2.trans q1.symm))
   have hr:=h.rows m id' c' a b;rw[hu.same id' hne (List.getElem?_eq_some_iff.1 hr).1];exact hr
theorem ClsOk.new {H Hb Hc:List MB}{ids:List Nat}{cls:List Spans} (h:ClsOk H ids cls) {x y:MB}{p:Int×Int} (hb:Hb=(H.set 1 x).set 2 y) (hu:Upd Hb Hc (Hb.length+1) (.row 2 ([p].map spanAV) 0)) :
  ClsOk (Hc.set 2 (.row 1 ((clsAV ids cls++[AV.sl true []]).set cls.length (.ms (Hb.length+1) 2 1 0 1)) 0)) (ids++[Hb.length+1]) (cls++[[p]]):=by
 have hbl:Hb.length=H.length:=by rw[hb];simp
 have h2:=(List.getElem?_eq_some_iff.1 h.out).1;have hl:=hu.len;have hids:∀ id∈ids,id<H.length:=fun id hid=>by
  obtain⟨n,hn⟩:=getElem?_of_mem hid;have h3:=(List.getElem?_eq_some_iff.1 hn).1;obtain⟨c,hc⟩:∃ c,cls[n]?=some c:=⟨_,getElem?_eq_getElem (by rw[<- h.len];exact h3)⟩;exact(List.getElem?_eq_some_iff.1 (h.rows n id c hn hc)).1
 refine⟨by simp[h.len],?_,fun m id c a b=>?_,?_,?_⟩
 ·rw[getElem?_set_self (by omega),Lx h.len];congr 2;rw[List.set_append_right _ _ (by rw[CA h.len];exact le_refl _),CA h.len];simp
 ·rcases lt_or_ge m ids.length with h3|h3
  ·rw[getElem?_append_left h3]at a;rw[getElem?_append_left (by rw[<- h.len];exact h3)]at b;have hid:=h.high id (mem_of_getElem? a);have hr:=h.rows m id c a b;have hlt:=hids id (mem_of_getElem? a);rw[getElem?_set_ne (by omega),hu.same id (by omega) (by omega),hb,getElem?_set_ne (by omega),getElem?_set_ne (by omega)];exact hr
  ·have hm:m=ids.length:=by
    have:=(List.getElem?_eq_some_iff.1 a).1;simp at this;omega
   subst hm;rw[List.getElem?_append_right (le_refl _),sub_self]at a;rw[h.len,List.getElem?_append_right (le_refl _),sub_self]at b;simp at a b;rw[<- a,<- b,getElem?_set_ne (by omega)];exact hu.at_
 ·exact List.nodup_append.2 ⟨h.nodup,by simp,fun a ha b hb2 e=>by
   have:=hids a ha;rw[mem_singleton.1 hb2]at e;omega⟩
 ·intro id hid;rcases mem_append.1 hid with h3|h3
  ·exact h.high id h3
  ·rw[mem_singleton.1 h3];omega
section rounds
variable {L:List Spans}{top:Int}{S:List (Int×Int)}{E:List Int}{k j:Nat}{w:List Int}{ws:List (List Int)}{ids:List Nat}{H:List MB}
theorem XI.old (h:XI L top S E k j w ws ids H) (hk:k<E.length) {n id:Nat} (hn:(firsts (colK L E top) k)[n]?=some (colK L E top k)) (hid:ids[n]?=some id) {H1:List MB}
  (hu:Upd H H1 id (.row 2 ((addI (clsOf (colK L E top) (pieceA E top) (colK L E top k) k) (pieceA E top k)).map spanAV) 0)) (h64:¬ 64<(addI (clsOf (colK L E top) (pieceA E top) (colK L E top k) k) (pieceA E top k)).length) :
  XI L top S E (k+1) j w ws ids (H1.set 2 (.row 1 ((clsAV ids (classesA (colK L E top) (pieceA E top) k)).set n (.ms id 2 (addI (clsOf (colK L E top) (pieceA E top) (colK L E top k) k) (pieceA E top k)).length 0 (addI (clsOf (colK L E top) (pieceA E top) (colK L E top k) k) (pieceA E top k)).length)) 0)):=by
 obtain⟨e1,e2,e3⟩:=Dh (pc:=pieceA E top) hn;have hid3:=h.cls.high id (mem_of_getElem? hid);have h0:=(List.getElem?_eq_some_iff.1 h.b0).1;have h1:=(List.getElem?_eq_some_iff.1 h.b1).1;refine⟨hk,h.j_le,h.wr,?_,?_,by rw[e1];exact h.keys,by rw[e1];exact h.key,by rw[e2];exact h.cls.upd hid hu,?_⟩
 ·rw[getElem?_set_ne (by omega),hu.same 0 (by omega) h0];exact h.b0
 ·rw[getElem?_set_ne (by omega),hu.same 1 (by omega) h1];exact h.b1
 ·rintro(h2|⟨c,hc,h2⟩)
  ·rw[e1]at h2;exact h.few (.inl h2)
  ·rw[e1]at hc;simp only[clsOf]at h2;split at h2
   ·rename_i e;subst e;exact h64 h2
   ·exact h.few (.inr ⟨c,hc,h2⟩)
theorem XI.new (h:XI L top S E k j w ws ids H) (hk:k<E.length) (hn:colK L E top k ∉ firsts (colK L E top) k) (hWk:WR w fun s=>(colK L E top k).getD s false) {Hb Hc:List MB}{y:MB}
  (hb:Hb=(H.set 1 (.mp KK16 (ent 0 (ws++[w])))).set 2 y) (hu:Upd Hb Hc (Hb.length+1) (.row 2 ([pieceA E top k].map spanAV) 0)) (hm:¬ 1024<(firsts (colK L E top) k).length+1) :
  XI L top S E (k+1) j w (ws++[w]) (ids++[Hb.length+1]) (Hc.set 2 (.row 1 ((clsAV ids (classesA (colK L E top) (pieceA E top) k)++[AV.sl true []]).set (firsts (colK L E top) k).length (.ms (Hb.length+1) 2 1 0 1)) 0)):=by
 obtain⟨e1,e2⟩:=Di (pc:=pieceA E top) hn;have h0:=(List.getElem?_eq_some_iff.1 h.b0).1;have h1:=(List.getElem?_eq_some_iff.1 h.b1).1;have hbl:Hb.length=H.length:=by rw[hb];simp
 refine⟨hk,h.j_le,h.wr,?_,?_,by rw[e1];simp[h.keys],fun n c hc=>?_,?_,?_⟩
 ·rw[getElem?_set_ne (by omega),hu.same 0 (by omega) (by omega),hb,getElem?_set_ne (by omega),getElem?_set_ne (by omega)];exact h.b0
 ·rw[getElem?_set_ne (by omega),hu.same 1 (by omega) (by omega),hb,getElem?_set_ne (by omega),getElem?_set_self h1]
 ·rw[e1]at hc;rcases lt_or_ge n (firsts (colK L E top) k).length with h3|h3
  ·rw[getElem?_append_left h3]at hc;obtain⟨v,h4,h5⟩:=h.key n c hc;exact⟨v,by rw[getElem?_append_left (by rw[h.keys];exact h3)];exact h4,h5⟩
  ·have hm:n=(firsts (colK L E top) k).length:=by
    have:=(List.getElem?_eq_some_iff.1 hc).1;simp at this;omega
   subst hm;rw[List.getElem?_append_right (le_refl _),sub_self]at hc;simp at hc;subst hc;exact⟨w,by rw[<- h.keys];simp,hWk⟩
 ·rw[e2];have:=h.cls.new hb hu;rw[BN]at this;exact this
 ·rintro(h2|⟨c,hc,h2⟩)
  ·rw[e1,length_append]at h2;exact hm h2
  ·simp only[clsOf]at h2;split at h2
   ·rename_i e;rw[<- e,Iu hn,Dm]at h2;simp at h2
   ·rename_i e;rw[e1]at hc;rcases mem_append.1 hc with h3|h3
    ·exact h.few (.inr ⟨c,h3,h2⟩)
    ·exact e (mem_singleton.1 h3).symm
theorem XI.find (h:XI L top S E k j w ws ids H) (hl:L.length<=1024) (hWk:WR w fun s=>(colK L E top k).getD s false) {n:Nat} (hn:(firsts (colK L E top) k)[n]?=some (colK L E top k)):findMp (wAV w) (ent 0 ws)=some (I n):=by
 obtain⟨v,h1,h2⟩:=h.key n _ hn;have hv:v=w:=h2.uniq hWk fun j _=>rfl;subst hv;rw[KY h1,zero_add];intro m hm;have hml:m<(firsts (colK L E top) k).length:=by rw[<- h.keys];exact(List.getElem?_eq_some_iff.1 hm).1
 obtain⟨c,hc⟩:∃ c,(firsts (colK L E top) k)[m]?=some c:=⟨_,getElem?_eq_getElem hml⟩;obtain⟨v',h3,h4⟩:=h.key m c hc;rw[hm]at h3;obtain rfl:=Option.some.inj h3;have hce:c=colK L E top k:=PD (by rw[Ci (mem_of_getElem? hc),HE]) (by rw[Ci (mem_of_getElem? hc)];exact hl) fun s hs=>h4.inj hWk hs;rw[hce]at hc;obtain⟨l1,q1⟩:=List.getElem?_eq_some_iff.1 hc;obtain⟨l2,q2⟩:=List.getElem?_eq_some_iff.1 hn;have hnd:=List.pairwise_iff_getElem.1 (CU (col:=colK L E top) k);rcases Nat.lt_trichotomy m n with h5|h5|h5
 ·exact absurd (q1.trans q2.symm) (hnd m n l1 l2 h5)
 ·exact h5
 ·exact absurd (q2.trans q1.symm) (hnd n m l2 l1 h5)
theorem XI.none (h:XI L top S E k j w ws ids H) (hl:L.length<=1024) (hWk:WR w fun s=>(colK L E top k).getD s false) (hn:colK L E top k ∉ firsts (colK L E top) k):w ∉ ws:=by
 intro hw;obtain⟨m,hm⟩:=getElem?_of_mem hw;have hml:m<(firsts (colK L E top) k).length:=by rw[<- h.keys];exact(List.getElem?_eq_some_iff.1 hm).1
 obtain⟨c,hc⟩:∃ c,(firsts (colK L E top) k)[m]?=some c:=⟨_,getElem?_eq_getElem hml⟩;obtain⟨v',h3,h4⟩:=h.key m c hc;rw[hm]at h3;obtain rfl:=Option.some.inj h3;have hce:c=colK L E top k:=PD (by rw[Ci (mem_of_getElem? hc),HE]) (by rw[Ci (mem_of_getElem? hc)];exact hl) fun s hs=>h4.inj hWk hs;exact hn (by rw[<- hce];exact mem_of_getElem? hc)
end rounds
theorem Lw {E:List Int}{top:Int} (he:EndsOk top E) (col:Nat->List Bool) (c:List Bool):∀ {n:Nat},n<=E.length->∀ q∈clsOf col (pieceA E top) c n,0<=q.2/\q.2<=top
 | 0,_,q,h=>by simp[clsOf]at h
 | n+1,hn,q,h=>by
   have ih:=Lw he col c (n:=n) (by omega);have st:=he.step (k:=n) (by omega);simp only[clsOf]at h;split at h
   ·have hp:0<=(pieceA E top n).2/\(pieceA E top n).2<=top:=by simp only[pieceA];omega
    rcases List.eq_nil_or_concat (clsOf col (pieceA E top) c n) with e|⟨O,r,e⟩
    ·rw[e,Dm]at h;rw[mem_singleton.1 h];exact hp
    ·rw[List.concat_eq_append]at e;rw[e]at ih h;rw[Dz]at h;split at h
     ·rcases mem_append.1 h with h|h
      ·exact ih q (by simp[h])
      ·rw[mem_singleton.1 h];have:=ih r (by simp);simp only;omega
     ·rcases mem_append.1 h with h|h
      ·exact ih q h
      ·rw[mem_singleton.1 h];exact hp
   ·exact ih q h
theorem sf34 (L:List Spans) (top:Int) (h0:0<=top) (htp:top<=1114111) (hs:∀ s∈L,SetV s) (hv:∀ s∈L,refSpans s=0) (hl:L.length<=8192) (hsl:∀ s∈L,s.length<=64) (H:List MB) :
  call Pg pol1 25 [.sl false (L.map setAV),I top] H=some (if 1024<L.length then splitR none else splitR (splitA L (endsR L top) top),H):=by
 have hpl:=AZ L;have h67:=sf67 L top h0 htp hs hl hsl;have h66:∀ s∈L,∀ H,call Pg pol1 49 [setAV s] H=some (I 0,H):=fun s hm H=>by
  rw[f121 s (by have:=hsl s hm;omega) H,hv s hm]
 refine AS Tryz.func25 rfl rfl rfl rfl rfl rfl (fun _=>rfl) (by simp[AV.plain,AV.plainL,hpl]) (by
  split
  ·rfl
  ·cases splitA L (endsR L top) top with
   | none=>rfl
   | some c=>simp[splitR,AV.plain,AV.plainL,AZ]) ?_ H
 simp +contextual (disch:=omega) only[Tryz.f25,dd25,go_sem,simprocAttr,evAppend,evBin,AV.cells,mu25,↓AD,↓AC,↓AB,↓AA];refine AY (M:=(mskOf (pol1.mask 25) (pol1.gc 25) (pol1.acts 25) 0 2)) rfl L.length (fun i=>(⟨123,[(19,I i),(18,I L.length),(17,.sl false (L.map setAV)),(1,I top),(0,.sl false (L.map setAV))],[]⟩:St)) (fun i=>True) ?_ ?_ trivial _ (by first|rfl|(refine AR rfl (by rfl) (by rfl) (by rfl) ?_ ?_<;>simp[AV.underL,AV.under,MB.under,AE,AK,AJ,AF,AN,AO,-map_take,AZ]))
 ·intro i hi _;obtain⟨s,hsi⟩:∃ s,L[i]?=some s:=⟨_,getElem?_eq_getElem hi⟩;have hsi':(L.map setAV)[i]?=some (setAV s):=by simp[hsi]
  have h:=h66 s (mem_of_getElem? hsi);simp +contextual (disch:=omega) only[Tryz.f25,dd25,go_sem,simprocAttr,evAppend,evBin,AV.cells,mu25,↓AD,↓AC,↓AB,↓AA,hsi',h];exact(by first|rfl|(refine AR rfl (by rfl) (by rfl) (by rfl) ?_ ?_<;>simp[AV.underL,AV.under,MB.under,AE,AK,AJ,AF,AN,AO,-map_take,AZ]))
 ·intro _;by_cases hbig:1024<L.length
  ·rw[if_pos hbig];simp +contextual (disch:=omega) only[Tryz.f25,dd25,go_sem,simprocAttr,evAppend,evBin,AV.cells,mu25,↓AD,↓AC,↓AB,↓AA];exact⟨_,rfl⟩
  ·rw[if_neg hbig];have hE:=Kf h0 hs;have hmem:=fun x=>NU (top:=top) h0 hs (x:=x);have hsm:=G7 htp hs;have hsc:ScanOk L top (sortE (endsP top 0 L)) (endsR L top):=⟨hs,h0,by omega,DE hsm,DD _,hE,hmem⟩;have hSl:=DF hsm;have hPl:=Dx (top:=top) (L:=L) (i:=0) hsl;have hEl:=NW h0 hs hsl;generalize endsR L top=E at *;generalize sortE (endsP top 0 L)=S at *;have hpe:=Bn S;have hrow0:List.replicate 16 (0:Int)=[0,0,0,0,0,0,0,0,0,0,0,0,0,0,0,0]:=rfl;simp +contextual (disch:=omega) only[Tryz.f25,dd25,go_sem,simprocAttr,evAppend,evBin,AV.cells,mu25,↓AD,↓AC,↓AB,↓AA,h67]
   refine Ft (σ:=XS) (M:=(mskOf (pol1.mask 25) (pol1.gc 25) (pol1.acts 25) 0 17)) rfl (fun x=>(⟨123,[(13,I (lastP E top x.k)),(12,.ms 2 1 (firsts (colK L E top) x.k).length 0 (firsts (colK L E top) x.k).length),(11,.mpr 1),(10,.rf 0 1 0 0),(9,.sl false ((S.drop x.j).map el2)),(1,I top)],x.H⟩:St))
    (fun x=>XI L top S E x.k x.j x.w x.ws x.ids x.H/\From S x.j (lastP E top x.k)) (fun x=>E.length-x.k)
    ⟨0,0,List.replicate 16 0,[],[],[.row 16 [wAV (List.replicate 16 0)] 0,.mp KK16 [],.row 1 [] 0]⟩ ?_ ⟨⟨zero_le _,zero_le _,WR.zero,rfl,rfl,rfl,fun n c h=>by simp[firsts]at h,⟨rfl,rfl,fun n id c h=>by simp at h,.nil,fun id h=>by simp at h⟩,by rintro(h|⟨c,h,_⟩)<;>simp[firsts]at h⟩,by rw[show lastP E top 0=0 from CI hE.first];exact From.zero hsc⟩ _ ?_
   ·rintro⟨k,j,w,ws,ids,H⟩ ⟨hi,hfr⟩;simp only at hi hfr |-;by_cases hk:k<E.length
    ·have hst:=hE.step hk;simp +contextual (disch:=omega) only[Tryz.f25,dd25,go_sem,simprocAttr,evAppend,evBin,AV.cells,mu25,↓AD,↓AC,↓AB,↓AA]
     refine Ft (σ:=XS) (M:=(mskOf (pol1.mask 25) (pol1.gc 25) (pol1.acts 25) 0 18)) rfl (fun x=>(⟨123,[(13,I (lastP E top k)),(12,.ms 2 1 (firsts (colK L E top) k).length 0 (firsts (colK L E top) k).length),(11,.mpr 1),(10,.rf 0 1 0 0),(9,.sl false ((S.drop x.j).map el2)),(1,I top)],x.H⟩:St))
      (fun x=>XI L top S E k x.j x.w ws ids x.H/\Mid S x.j (lastP E top k)) (fun x=>S.length-x.j)
      ⟨k,j,w,ws,ids,H⟩ ?_ ⟨hi,hfr.mid⟩ _ (by first|rfl|(refine AR rfl (by rfl) (by rfl) (by rfl) ?_ ?_<;>simp[AV.underL,AV.under,MB.under,AE,AK,AJ,AF,AN,AO,-map_take,AZ]))
     rintro⟨_,j,w,_,_,H⟩ ⟨hi,hmid⟩;simp only at hi hmid |-;by_cases hend:∃ e,S[j]?=some e/\e.1=lastP E top k
     ·obtain⟨e,he,hat⟩:=hend;have hjl:=(List.getElem?_eq_some_iff.1 he).1;obtain⟨⟨s,hes,hsl1⟩,_⟩:=hsc.at he;have hdl:(S.drop j).map el2=.agg [I (lastP E top k),I s]::(S.drop (j+1)).map el2:=by
       rw[List.drop_eq_getElem_cons hjl,(List.getElem?_eq_some_iff.1 he).2,map_cons];simp only[el2,hat,hes]
      obtain⟨x,hx1,hx2,_⟩:=hi.wr.2 (s / 64) (by omega);have hx':(w.map U)[s / 64]?=some (U x):=by simp[hx1]
      have hw16:=hi.wr.1;have hb0:=hi.b0;have q1:=Ke s (by omega);have q2:=Kd s;have q3:=PZ (s % 64) (by omega);have q4:=Lr x (2 ^ (s % 64)) (s % 64) rfl;rw[hdl];simp +contextual (disch:=omega) only[Tryz.f25,dd25,go_sem,simprocAttr,evAppend,AV.cells,mu25,↓AD,↓AC,↓AB,↓AA,BZ,Ba,q1,q2,q3,q4,hb0,hx'];rw[OI (by omega)];refine⟨by unfold dOk;kernel_rfl,by kernel_rfl,List.all_eq_true.2 fun y hy=>?_,⟨k,j+1,w.set (s / 64) (xorW x (s % 64)),ws,ids,H.set 0 (.row 16 [wAV (w.set (s / 64) (xorW x (s % 64)))] 0)⟩,⟨hi.tog he hes (by omega) hx1,hmid.step he hat⟩,by show S.length-(j+1)<S.length-j;omega,?_⟩
      ·obtain⟨z,_,rfl⟩:=List.mem_map.1 hy;rfl
      ·rw[take_of_length_le (by simp)];rfl
     ·have hpast:=hmid.past hsc.sorted fun e he h=>hend ⟨e,he,h⟩;obtain⟨hnx,hfr2⟩:=Past.next hsc hk hpast;have hpar:=fun s=>Past.par hsc (show lastP E top k<=top by omega) hpast s;have hWk:WR w fun s=>(colK L E top k).getD s false:=hi.wr.congr fun s _=>hpar s;have hb0:=hi.b0;have hb1:H[1]?=some (.mp (.flat 90 [some .u64,some .u64,some .u64,some .u64,some .u64,some .u64,some .u64,some .u64,some .u64,some .u64,some .u64,some .u64,some .u64,some .u64,some .u64,some .u64]) (ent 0 ws)):=hi.b1;have hout:=hi.cls.out;have hw16:=hi.wr.1;have hko:=QW hw16;have htk:List.take 16 (w.map U)=w.map U:=take_of_length_le (by simp[hw16]);have hcellW:(wAV w).cells=w.map U:=rfl;have hcellM:∀ a b c d e,(AV.ms a b c d e).cells=[.ms a b c d e]:=fun _ _ _ _ _=>rfl;have hcellE:∀ a b:Int,(AV.agg [I a,I b]).cells=[I a,I b]:=fun _ _=>rfl;have hcellI:∀ k n,(AV.int k n).cells=[.int k n]:=fun _ _=>rfl;have hfw:(firsts (colK L E top) k).length<=1024:=by
       have:=hi.few;exact Nat.le_of_not_lt fun h=>this (.inl h)
      cases hSj:S[j]? with
      | none=>
        have hd:S.drop j=[]:=List.drop_eq_nil_of_le (List.getElem?_eq_none_iff.1 hSj);rw[hSj]at hnx;simp only at hnx;rw[hd];obtain⟨la,hla⟩:∃ la,la=top:=⟨_,rfl⟩;have hpcx:pieceA E top k=(lastP E top k,top):=by simp only[pieceA,hnx];congr 1;omega
        have hat2:IntKind.i64.wrap (top+1)=lastP E top (k+1):=by rw[i64_in]<;>omega
        by_cases hold:colK L E top k∈firsts (colK L E top) k
        ·obtain⟨n,hn⟩:=getElem?_of_mem hold;have hnl:=(List.getElem?_eq_some_iff.1 hn).1;obtain⟨e1,e2,e3⟩:=Dh (pc:=pieceA E top) hn;have hf:=hi.find (by omega) hWk hn;obtain⟨id,hid⟩:∃ id,ids[n]?=some id:=⟨_,getElem?_eq_getElem (by rw[hi.cls.len,BN];exact hnl)⟩;have hrow:=hi.cls.rows n id _ hid e3;have hCl:(clsAV ids (classesA (colK L E top) (pieceA E top) k)).length=(firsts (colK L E top) k).length:=by rw[CA hi.cls.len,BN]
         have hCn:=Km hid e3;have hcpos:=FH (pc:=pieceA E top) hold;have hc64:¬ 64<(clsOf (colK L E top) (pieceA E top) (colK L E top k) k).length:=fun h=>hi.few (.inr ⟨_,hold,h⟩);have hin:=Lw hE (colK L E top) (colK L E top k) (n:=k) (by omega);obtain⟨H1,h68,hu⟩:=Qz (p:=pieceA E top k) hrow rfl hcpos (by omega) (fun q hq=>by have:=(hin q hq).2;omega) (by rw[hpcx];exact⟨by simp only;omega,by simp only;omega,by simp only;omega⟩) (fun q hq=>(hin q hq).1);have hnew:=fun h64=>hi.old hk hn hid hu h64;have hbadk:=fun h64:64<(addI (clsOf (colK L E top) (pieceA E top) (colK L E top k) k) (pieceA E top k)).length=>DA (L:=L) (E:=E) (top:=top) (n:=k+1) (by omega) (.inr ⟨colK L E top k,by rw[e1];exact hold,by simp only[clsOf,if_true];exact h64⟩);have hid3:=hi.cls.high id (mem_of_getElem? hid);have h2l:=(List.getElem?_eq_some_iff.1 hout).1;have hout1:H1[2]?=some (.row 1 (clsAV ids (classesA (colK L E top) (pieceA E top) k)) 0):=by rw[hu.same 2 (by omega) h2l];exact hout
         have hset:=fun y:MB=>getElem?_set_self (a:=y) (show 2<H1.length by have:=hu.len;omega);rw[hpcx]at h68;simp only at h68;rw[<- hpcx]at h68;generalize (addI (clsOf (colK L E top) (pieceA E top) (colK L E top k) k) (pieceA E top k)).length=m at *;generalize (clsOf (colK L E top) (pieceA E top) (colK L E top k) k).length=c at *;have hCs:∀ v:AV,((clsAV ids (classesA (colK L E top) (pieceA E top) k)).set n v)[n]?=some v:=fun v=>getElem?_set_self (by rw[hCl];exact hnl);generalize clsAV ids (classesA (colK L E top) (pieceA E top) k)=C at *;by_cases h64:64<m
         ·rw[hbadk h64];simp +contextual (disch:=omega) only[Tryz.f25,dd25,go_sem,simprocAttr,evAppend,mu25,↓AD,↓AC,↓AB,↓AA,hd,BZ,Ba,Bj,Bi,hb0,hb1,htk,hw16,hko,hf,hout,hCl,hCn,h68,hout1,hset,hCs,List.length_set,hcellW,hcellM,hcellI,hcellE,hfw];exact⟨_,rfl⟩
         ·simp +contextual (disch:=omega) only[Tryz.f25,dd25,go_sem,simprocAttr,evAppend,mu25,↓AD,↓AC,↓AB,↓AA,hd,BZ,Ba,Bj,Bi,hb0,hb1,htk,hw16,hko,hf,hout,hCl,hCn,h68,hout1,hset,hCs,List.length_set,hcellW,hcellM,hcellI,hcellE,hat2,hfw];refine⟨⟨k+1,j,w,ws,ids,_⟩,⟨hnew h64,hfr2⟩,by show E.length-(k+1)<E.length-k;omega,?_⟩;simp only[e1];rw[hd];rfl
        ·have e1:=(Di (pc:=pieceA E top) hold).1;have hN1:(firsts (colK L E top) (k+1)).length=(firsts (colK L E top) k).length+1:=by rw[e1];simp
         have hww:=hi.none (by omega) hWk hold;have hf:=E9 (i:=0) hww;have hup:=I6 (i:=0) hww;rw[zero_add,hi.keys]at hup;have hCl:(clsAV ids (classesA (colK L E top) (pieceA E top) k)).length=(firsts (colK L E top) k).length:=by rw[CA hi.cls.len,BN]
         have h2l:=(List.getElem?_eq_some_iff.1 hout).1;have hg2:getRow (H.set 1 (.mp KK16 (ent 0 (ws++[w])))) 2=some (1,clsAV ids (classesA (colK L E top) (pieceA E top) k),0):=by
          unfold getRow;rw[getElem?_set_ne (by omega),hout]
         obtain⟨Hb,hHb⟩:∃ Hb,Hb=(H.set 1 (.mp KK16 (ent 0 (ws++[w])))).set 2 (.row 1 (clsAV ids (classesA (colK L E top) (pieceA E top) k)++[AV.sl true []]) 0):=⟨_,rfl⟩;have ha:∀ t,evAppend Pg (H.set 1 (.mp (.flat 90 [some .u64,some .u64,some .u64,some .u64,some .u64,some .u64,some .u64,some .u64,some .u64,some .u64,some .u64,some .u64,some .u64,some .u64,some .u64,some .u64]) (ent 0 (ws++[w])))) 33 33 (.ms 2 1 (firsts (colK L E top) k).length 0 (firsts (colK L E top) k).length) (.sl t [.sl true []])=some (.ms 2 1 ((firsts (colK L E top) k).length+1) 0 ((firsts (colK L E top) k).length+1),Hb):=fun t=>by
          have hs:srcElems Pg (H.set 1 (.mp KK16 (ent 0 (ws++[w])))) 23 (.sl t [.sl true []])=some [.sl true []]:=rfl;have:=Ao (sT:=33) (xT:=33) (e:=23) (by kernel_rfl) (by kernel_rfl) (k:=1) (by kernel_rfl) (by_:=24) (by kernel_rfl) (ze:=.sl true []) (by kernel_rfl) rfl (by omega) hs (by simp[AV.cells,AV.ok]) hg2 hCl (zero_le _) (Ag (by simp;omega) (by omega));rw[hHb];exact this
         have hb2:Hb[2]?=some (.row 1 (clsAV ids (classesA (colK L E top) (pieceA E top) k)++[AV.sl true []]) 0):=by rw[hHb];exact getElem?_set_self (by simpa using h2l)
         obtain⟨Hc,h68,hu⟩:=OJ Hb (pieceA E top k);have hbl:Hb.length=H.length:=by rw[hHb];simp
         have hc2:Hc[2]?=some (.row 1 (clsAV ids (classesA (colK L E top) (pieceA E top) k)++[AV.sl true []]) 0):=by rw[hu.same 2 (by omega) (by omega)];exact hb2
         have hset:=fun y:MB=>getElem?_set_self (a:=y) (show 2<Hc.length by have:=hu.len;omega);have hnew:=fun hm=>hi.new hk hold hWk hHb hu hm;have hbadk:=fun hm:1024<(firsts (colK L E top) k).length+1=>DA (L:=L) (E:=E) (top:=top) (n:=k+1) (by omega) (.inl (by rw[e1,length_append];exact hm));rw[hpcx]at h68;simp only at h68;generalize (firsts (colK L E top) k).length=N at *;generalize hCC:clsAV ids (classesA (colK L E top) (pieceA E top) k)=C at *;have hCn:(C++[AV.sl true []])[N]?=some (AV.sl true []):=by rw[<- hCl];simp
         have hCl2:(C++[AV.sl true []]).length=N+1:=by simp[hCl]
         have hCs:∀ v:AV,((C++[AV.sl true []]).set N v)[N]?=some v:=fun v=>getElem?_set_self (by rw[hCl2];omega);have hCsl:∀ v:AV,((C++[AV.sl true []]).set N v).length=N+1:=fun v=>by rw[List.length_set];exact hCl2
         generalize C++[AV.sl true []]=C2 at *;have hcellN:(AV.sl true []).cells=[.sl true []]:=rfl;by_cases hm:1024<N+1
         ·rw[hbadk hm];simp +contextual (disch:=omega) only[Tryz.f25,dd25,go_sem,simprocAttr,mu25,↓AD,↓AC,↓AB,↓AA,hd,BZ,Ba,Bj,Bi,hb0,hb1,htk,hw16,hko,hf,hup,hout,ha,hb2,hc2,hCn,hCl2,hCs,hCsl,h68,hset,List.length_set,hcellW,hcellM,hcellI,hcellE,hcellN];exact⟨_,rfl⟩
         ·simp +contextual (disch:=omega) only[Tryz.f25,dd25,go_sem,simprocAttr,mu25,↓AD,↓AC,↓AB,↓AA,hd,BZ,Ba,Bj,Bi,hb0,hb1,htk,hw16,hko,hf,hup,hout,ha,hb2,hc2,hCn,hCl2,hCs,hCsl,h68,hset,List.length_set,hcellW,hcellM,hcellI,hcellE,hcellN,hat2];refine⟨⟨k+1,j,w,ws++[w],ids++[Hb.length+1],_⟩,⟨hnew hm,hfr2⟩,by show E.length-(k+1)<E.length-k;omega,?_⟩;simp only[hN1];rw[hd];rfl
      | some e=>
        have hjl:=(List.getElem?_eq_some_iff.1 hSj).1;have hdl:(S.drop j).map el2=.agg [I e.1,I e.2]::(S.drop (j+1)).map el2:=by
         rw[List.drop_eq_getElem_cons hjl,(List.getElem?_eq_some_iff.1 hSj).2,map_cons];rfl
        have hne:e.1≠lastP E top k:=fun h=>hend ⟨e,hSj,h⟩;have hea:=(hsc.at hSj).2.2;have heg:=hpast.2 j e (le_refl _) hSj;have hwl:IntKind.i64.wrap (e.1-1)=e.1-1:=by rw[i64_in];omega
        rw[hSj]at hnx;simp only at hnx;rw[hdl];obtain⟨la,hla⟩:∃ la,la=(e.1-1):=⟨_,rfl⟩;have hpcx:pieceA E top k=(lastP E top k,(e.1-1)):=by simp only[pieceA,hnx]
        have hat2:IntKind.i64.wrap ((e.1-1)+1)=lastP E top (k+1):=by rw[i64_in]<;>omega
        by_cases hold:colK L E top k∈firsts (colK L E top) k
        ·obtain⟨n,hn⟩:=getElem?_of_mem hold;have hnl:=(List.getElem?_eq_some_iff.1 hn).1;obtain⟨e1,e2,e3⟩:=Dh (pc:=pieceA E top) hn;have hf:=hi.find (by omega) hWk hn;obtain⟨id,hid⟩:∃ id,ids[n]?=some id:=⟨_,getElem?_eq_getElem (by rw[hi.cls.len,BN];exact hnl)⟩;have hrow:=hi.cls.rows n id _ hid e3;have hCl:(clsAV ids (classesA (colK L E top) (pieceA E top) k)).length=(firsts (colK L E top) k).length:=by rw[CA hi.cls.len,BN]
         have hCn:=Km hid e3;have hcpos:=FH (pc:=pieceA E top) hold;have hc64:¬ 64<(clsOf (colK L E top) (pieceA E top) (colK L E top k) k).length:=fun h=>hi.few (.inr ⟨_,hold,h⟩);have hin:=Lw hE (colK L E top) (colK L E top k) (n:=k) (by omega);obtain⟨H1,h68,hu⟩:=Qz (p:=pieceA E top k) hrow rfl hcpos (by omega) (fun q hq=>by have:=(hin q hq).2;omega) (by rw[hpcx];exact⟨by simp only;omega,by simp only;omega,by simp only;omega⟩) (fun q hq=>(hin q hq).1);have hnew:=fun h64=>hi.old hk hn hid hu h64;have hbadk:=fun h64:64<(addI (clsOf (colK L E top) (pieceA E top) (colK L E top k) k) (pieceA E top k)).length=>DA (L:=L) (E:=E) (top:=top) (n:=k+1) (by omega) (.inr ⟨colK L E top k,by rw[e1];exact hold,by simp only[clsOf,if_true];exact h64⟩);have hid3:=hi.cls.high id (mem_of_getElem? hid);have h2l:=(List.getElem?_eq_some_iff.1 hout).1;have hout1:H1[2]?=some (.row 1 (clsAV ids (classesA (colK L E top) (pieceA E top) k)) 0):=by rw[hu.same 2 (by omega) h2l];exact hout
         have hset:=fun y:MB=>getElem?_set_self (a:=y) (show 2<H1.length by have:=hu.len;omega);rw[hpcx]at h68;simp only at h68;rw[<- hpcx]at h68;generalize (addI (clsOf (colK L E top) (pieceA E top) (colK L E top k) k) (pieceA E top k)).length=m at *;generalize (clsOf (colK L E top) (pieceA E top) (colK L E top k) k).length=c at *;have hCs:∀ v:AV,((clsAV ids (classesA (colK L E top) (pieceA E top) k)).set n v)[n]?=some v:=fun v=>getElem?_set_self (by rw[hCl];exact hnl);generalize clsAV ids (classesA (colK L E top) (pieceA E top) k)=C at *;by_cases h64:64<m
         ·rw[hbadk h64];simp +contextual (disch:=omega) only[Tryz.f25,dd25,go_sem,simprocAttr,evAppend,mu25,↓AD,↓AC,↓AB,↓AA,hwl,BZ,Ba,Bj,Bi,hb0,hb1,htk,hw16,hko,hf,hout,hCl,hCn,h68,hout1,hset,hCs,List.length_set,hcellW,hcellM,hcellI,hcellE,hfw];exact⟨_,rfl⟩
         ·simp +contextual (disch:=omega) only[Tryz.f25,dd25,go_sem,simprocAttr,evAppend,mu25,↓AD,↓AC,↓AB,↓AA,hwl,BZ,Ba,Bj,Bi,hb0,hb1,htk,hw16,hko,hf,hout,hCl,hCn,h68,hout1,hset,hCs,List.length_set,hcellW,hcellM,hcellI,hcellE,hat2,hfw];refine⟨⟨k+1,j,w,ws,ids,_⟩,⟨hnew h64,hfr2⟩,by show E.length-(k+1)<E.length-k;omega,?_⟩;simp only[e1];rw[hdl];rfl
        ·have e1:=(Di (pc:=pieceA E top) hold).1;have hN1:(firsts (colK L E top) (k+1)).length=(firsts (colK L E top) k).length+1:=by rw[e1];simp
         have hww:=hi.none (by omega) hWk hold;have hf:=E9 (i:=0) hww;have hup:=I6 (i:=0) hww;rw[zero_add,hi.keys]at hup;have hCl:(clsAV ids (classesA (colK L E top) (pieceA E top) k)).length=(firsts (colK L E top) k).length:=by rw[CA hi.cls.len,BN]
         have h2l:=(List.getElem?_eq_some_iff.1 hout).1;have hg2:getRow (H.set 1 (.mp KK16 (ent 0 (ws++[w])))) 2=some (1,clsAV ids (classesA (colK L E top) (pieceA E top) k),0):=by
          unfold getRow;rw[getElem?_set_ne (by omega),hout]
         obtain⟨Hb,hHb⟩:∃ Hb,Hb=(H.set 1 (.mp KK16 (ent 0 (ws++[w])))).set 2 (.row 1 (clsAV ids (classesA (colK L E top) (pieceA E top) k)++[AV.sl true []]) 0):=⟨_,rfl⟩;have ha:∀ t,evAppend Pg (H.set 1 (.mp (.flat 90 [some .u64,some .u64,some .u64,some .u64,some .u64,some .u64,some .u64,some .u64,some .u64,some .u64,some .u64,some .u64,some .u64,some .u64,some .u64,some .u64]) (ent 0 (ws++[w])))) 33 33 (.ms 2 1 (firsts (colK L E top) k).length 0 (firsts (colK L E top) k).length) (.sl t [.sl true []])=some (.ms 2 1 ((firsts (colK L E top) k).length+1) 0 ((firsts (colK L E top) k).length+1),Hb):=fun t=>by
          have hs:srcElems Pg (H.set 1 (.mp KK16 (ent 0 (ws++[w])))) 23 (.sl t [.sl true []])=some [.sl true []]:=rfl;have:=Ao (sT:=33) (xT:=33) (e:=23) (by kernel_rfl) (by kernel_rfl) (k:=1) (by kernel_rfl) (by_:=24) (by kernel_rfl) (ze:=.sl true []) (by kernel_rfl) rfl (by omega) hs (by simp[AV.cells,AV.ok]) hg2 hCl (zero_le _) (Ag (by simp;omega) (by omega));rw[hHb];exact this
         have hb2:Hb[2]?=some (.row 1 (clsAV ids (classesA (colK L E top) (pieceA E top) k)++[AV.sl true []]) 0):=by rw[hHb];exact getElem?_set_self (by simpa using h2l)
         obtain⟨Hc,h68,hu⟩:=OJ Hb (pieceA E top k);have hbl:Hb.length=H.length:=by rw[hHb];simp
         have hc2:Hc[2]?=some (.row 1 (clsAV ids (classesA (colK L E top) (pieceA E top) k)++[AV.sl true []]) 0):=by rw[hu.same 2 (by omega) (by omega)];exact hb2
         have hset:=fun y:MB=>getElem?_set_self (a:=y) (show 2<Hc.length by have:=hu.len;omega);have hnew:=fun hm=>hi.new hk hold hWk hHb hu hm;have hbadk:=fun hm:1024<(firsts (colK L E top) k).length+1=>DA (L:=L) (E:=E) (top:=top) (n:=k+1) (by omega) (.inl (by rw[e1,length_append];exact hm));rw[hpcx]at h68;simp only at h68;generalize (firsts (colK L E top) k).length=N at *;generalize hCC:clsAV ids (classesA (colK L E top) (pieceA E top) k)=C at *;have hCn:(C++[AV.sl true []])[N]?=some (AV.sl true []):=by rw[<- hCl];simp
         have hCl2:(C++[AV.sl true []]).length=N+1:=by simp[hCl]
         have hCs:∀ v:AV,((C++[AV.sl true []]).set N v)[N]?=some v:=fun v=>getElem?_set_self (by rw[hCl2];omega);have hCsl:∀ v:AV,((C++[AV.sl true []]).set N v).length=N+1:=fun v=>by rw[List.length_set];exact hCl2
         generalize C++[AV.sl true []]=C2 at *;have hcellN:(AV.sl true []).cells=[.sl true []]:=rfl;by_cases hm:1024<N+1
         ·rw[hbadk hm];simp +contextual (disch:=omega) only[Tryz.f25,dd25,go_sem,simprocAttr,mu25,↓AD,↓AC,↓AB,↓AA,hwl,BZ,Ba,Bj,Bi,hb0,hb1,htk,hw16,hko,hf,hup,hout,ha,hb2,hc2,hCn,hCl2,hCs,hCsl,h68,hset,List.length_set,hcellW,hcellM,hcellI,hcellE,hcellN];exact⟨_,rfl⟩
         ·simp +contextual (disch:=omega) only[Tryz.f25,dd25,go_sem,simprocAttr,mu25,↓AD,↓AC,↓AB,↓AA,hwl,BZ,Ba,Bj,Bi,hb0,hb1,htk,hw16,hko,hf,hup,hout,ha,hb2,hc2,hCn,hCl2,hCs,hCsl,h68,hset,List.length_set,hcellW,hcellM,hcellI,hcellE,hcellN,hat2];refine⟨⟨k+1,j,w,ws++[w],ids++[Hb.length+1],_⟩,⟨hnew hm,hfr2⟩,by show E.length-(k+1)<E.length-k;omega,?_⟩;simp only[hN1];rw[hdl];rfl
    ·have hke:k=E.length:=by have:=hi.k_le;omega
     have hle:lastP E top k=top+1:=Ds (by omega);have hok:splitA L E top=some (classesA (colK L E top) (pieceA E top) k):=by
      rw[hke];exact H5 (by rw[<- hke];exact hi.few)
     have hcl:=BN (col:=colK L E top) (pc:=pieceA E top) k;obtain⟨H',hfin⟩:=hi.cls.fz hcl;rw[hok,hle];simp +contextual (disch:=omega) only[Tryz.f25,dd25,go_sem,simprocAttr,evAppend,evBin,AV.cells,mu25,↓AD,↓AC,↓AB,↓AA];exact⟨H',hfin⟩
   ·simp only[CI hE.first,List.drop_zero,firsts,List.length_nil];rfl
end
section
attribute [local go_sem] evAppend evBin AV.cells
mutual
def setsR:Re->List Spans
 | .mk op set kids _ _ _ _ _=>if op=1 then [set] else setsL kids
def setsL:List Re->List Spans
 | []=>[]
 | k::l=>setsR k++setsL l
end
theorem Ey:∀ a b:List Re,setsL (a++b)=setsL a++setsL b
 | [],b=>by simp[setsL]
 | k::a,b=>by simp[setsL,Ey a b]
theorem LN {l:List Re}{i:Nat}{k:Re} (h:l[i]?=some k):setsL (l.take (i+1))=setsL (l.take i)++setsR k:=by
 rw[AX h,Ey];simp[setsL]
theorem Iy {cf:CF}{it:It}{mu:List Nat}{m:Cfg}{g f h n:Nat}{cs:List AV}{ps:Array Tmp}{asg b:Code}{c:Code×Code}{t:Tm}{H H':List MB}{r:AV}{e:EX}{s':St}{Q:EX->St->Prop} {τ} (mk:Option (List Nat)) (hcc:c=(asg,b)) (hf:m.rf=some f) (hg:look t g=some (.clo h cs)) (hk:(m.lp (loopId b)).k=mk)
  (hne:h≠yldF) (hc:cf h (.yld H.length::cs) (H++[.lp .ready f n (keepT mk t) ps.toList c])=some (r,H')) (he:endLp H' H.length ⟨n,t,H⟩=some (e,s')) (hq:Q e s'):W Pg cf it mu m (.rangeFunc (.tmp g) ps asg b) ⟨n,t,H⟩ Q τ:=by
 subst hcc;exact MD mk hf hg hk hne hc he hq
theorem Gs (n:Nat):∀(xs ys:List MB),(∀ y∈ys.take xs.length,MB.under n y=true)->keptOk n xs ys=true
 | [],ys,_=>by cases ys<;>rfl
 | x::xs,[],_=>rfl
 | x::xs,y::ys,h=>by
   simp only[keptOk,h y (by simp),Bool.true_or,Bool.true_and];exact Gs n xs ys (fun z hz=>h z (by simp[hz]))
theorem OkD.noKids {s:Spans}{kids:List Re}{a b c d:Int}{g:Bool} (h:OkD (.mk 1 s kids a b c d g)):kids=[]:=by
 cases h;rfl
theorem d24 (r:Re) (H:List MB):call Pg pol1 24 [reAV r] H=some (.clo 48 [.rf H.length 1 0 0],H++[.row 8 [reAV r] 0]):=by
 have hfr:frzArgs pol1 24 0 [reAV r] H=some ([reAV r],H):=AQ _ _ _ (by simp only[mixOk,AU,Bool.true_or,Bool.or_true,Bool.and_self]);refine AT (pol:=pol1) Tryz.func24 rfl rfl rfl rfl hfr ?_;simp +contextual -implicitDefEqProofs (disch:=omega) only[Tryz.f24,dd24,go_sem,simprocAttr,mu24,↓AD,↓AC,↓AB,↓AA,AH,AI,AL];rfl
structure Csm (N id mx:Nat) (Hc:List Spans->List MB):Prop where
 len:∀ a,(Hc a).length=N
 und:∀ a n,N<=n->(Hc a).all (MB.under n)=true
 lt:id<N
 yld:∀ a s K,a.length<mx->call Pg pol1 1000000000 [.yld id,setAV s] (Hc a++K)=some (.bool true,Hc (a++[s])++K)
theorem y48 {N id mx:Nat}{Hc:List Spans->List MB} (hC:Csm N id mx Hc) {c:Code×Code} (hc:c=rfOf Pg 48) (k1 k2:Re) :
  Csm (N+4) (N+3) mx (fun a=>Hc a++[.row 1 [.yld id] 0,.row 8 [reAV k1] 0,.row 8 [reAV k2] 0,.lp .ready 48 31 [(2,.rf N 1 0 0)] [25] c]):=by
 have e1:=congrArg (·.1) hc;have e2:=congrArg (·.2) hc;simp only[rfOf,Tryz.func48,Tryz.f48,findRF,List.append_nil,nil_append,List.headD]at e1 e2;refine⟨fun a=>by simp[hC.len],fun a n hn=>?_,by omega,fun a s K ha=>?_⟩
 ·have h1:=hC.und a n (by omega);have h2:=hC.lt;rw[all_append,h1];simp[MB.under,AV.underL,AV.under,AE _ _ (AM k1),AE _ _ (AM k2)];omega
 ·have hN:=hC.len;have g:=fun(a:List Spans) (l:List MB) (k:Nat)=>@gA (Hc a) l k;simp only[hN]at g;have g0:=fun(a:List Spans) (l:List MB)=>g a l 0;simp only[Nat.add_zero]at g0;have z:=fun(a:List Spans) (l:List MB) (k:Nat) (b:MB)=>@sA (Hc a) l k b;simp only[hN]at z;have hy:=fun K=>hC.yld a s K ha;clear hc;refine HL (f:=48) (n:=31) (t:=[(2,.rf N 1 0 0)]) (ps:=[25]) (c:=c) rfl (by simp only[append_assoc,g];rfl) rfl e1 e2 ?_;simp +contextual -implicitDefEqProofs (disch:=omega) only[Tryz.f48,dd48,go_sem,simprocAttr,mu48,↓AD,↓AC,↓AB,↓AA,J9,beginRd,MB.beqT_refl,Cl,hN,append_assoc,cons_append,nil_append,g,g0,z,hy];rw[HA (by simp only[g];rfl)];simp only[z,List.set_cons_succ,List.set_cons_zero]
theorem N3 {cf:CF}{it:It}{mu:List Nat}{m:Cfg}{g f h n L:Nat}{cs:List AV}{ps:Array Tmp}{asg b:Code}{c:Code×Code}{t:Tm}{H H':List MB}{r:AV}{e:EX}{s':St}{Q:EX->St->Prop} {τ} (mk:Option (List Nat)) (hL:H.length=L) (hcc:c=(asg,b)) (hf:m.rf=some f) (hg:look t g=some (.clo h cs)) (hk:(m.lp (loopId b)).k=mk)
  (hne:h≠yldF) (hc:cf h (.yld L::cs) (H++[.lp .ready f n (keepT mk t) ps.toList c])=some (r,H')) (he:endLp H' L ⟨n,t,H⟩=some (e,s')) (hq:Q e s'):W Pg cf it mu m (.rangeFunc (.tmp g) ps asg b) ⟨n,t,H⟩ Q τ:=by
 subst hL;exact Iy mk hcc hf hg hk hne hc he hq
theorem d48:∀(n:Nat),n<=1000000000->∀ re:Re,re.wt<=n->OkD re->∀ {N id mx:Nat}{Hc:List Spans->List MB},Csm N id mx Hc->∀ {ib:Nat},(∀ a,(Hc a)[ib]?=some (.row 8 [reAV re] 0))->∀ a,a.length+(setsR re).length<=mx ->
  call Pg pol1 48 [.yld id,.rf ib 1 0 0] (Hc a)=some (.tup [],Hc (a++setsR re)):=by
 intro n
 induction n with
 | zero=>
   intro _ re hw;have:=re.wt_pos;omega
 | succ n ih=>
   intro hnb re hw hok N id mx Hc hC ib hib a hm;obtain⟨op,set,kids,mn,mxx,md,nn,neg⟩:=re;have hkid:=OkD.kids hok;have hN:=hC.len;have hlt:=hC.lt;have g:=fun(a:List Spans) (l:List MB) (k:Nat)=>@gA (Hc a) l k;simp only[hN]at g;have g0:=fun(a:List Spans) (l:List MB)=>g a l 0;simp only[Nat.add_zero]at g0;have z:=fun(a:List Spans) (l:List MB) (k:Nat) (b:MB)=>@sA (Hc a) l k b;simp only[hN]at z;have gi:∀ a B,(Hc a++B)[ib]?=some (.row 8 [reAV (.mk op set kids mn mxx md nn neg)] 0):=fun a B=>by rw[getElem?_append_left (List.getElem?_eq_some_iff.1 (hib a)).1];exact hib a
   have gi0:=hib;have hend:∀ a1 a2 G,retPol pol1 48 (Hc a1) (.tup []) (Hc a2++G)=some (.tup [],Hc a2):=fun a1 a2 G=>by
    refine Ae rfl rfl rfl (Gs _ _ _ fun y hy=>?_) (by rw[hN,<- hN a2];exact List.take_left' rfl);rw[hN,<- hN a2,List.take_left' rfl]at hy;have:=List.all_eq_true.1 (hC.und a2 _ (le_refl _)) y hy
    rwa [hN]
   obtain⟨c,hc⟩:∃ c:Code×Code,c=rfOf Pg 48:=⟨_,rfl⟩;refine AT (pol:=pol1) Tryz.func48 rfl rfl rfl rfl (show frzArgs pol1 48 0 [.yld id,.rf ib 1 0 0] (Hc a)=some ([.yld id,.rf ib 1 0 0],Hc a) from rfl) ?_;have hY:=hC.yld;have hpr:∀(b:List Spans) (t t':Tm) (G:List MB),keepT (mskOf (pol1.mask 48) (pol1.gc 48) (pol1.acts 48) N 3).k t=t'->AV.underL (N+1) (t'.map (·.2))=true->prep (mskOf (pol1.mask 48) (pol1.gc 48) (pol1.acts 48) N 3) ⟨31,t,Hc b++(.row 1 [.yld id] 0::G)⟩=⟨31,t',Hc b++[.row 1 [.yld id] 0]⟩:=fun b t t' G hk ht=>by
    refine AR (n:=N+1) rfl rfl hk ?_ ht ?_
    ·rw[List.take_append,hN,take_of_length_le (by rw[hN];omega)];simp[Nat.add_sub_cancel_left]
    ·have h1:=hC.und b (N+1) (by omega);rw[all_append,h1];simp[MB.under,AV.underL,AV.under];omega
   by_cases h1:op=1
   ·subst h1;obtain rfl:=OkD.noKids hok;simp only[setsR,if_true,List.length_singleton]at hm |-;have hy:=fun K=>hY a set K (by omega);simp +contextual -implicitDefEqProofs (disch:=omega) only[Tryz.f48,dd48,go_sem,simprocAttr,mu48,↓AD,↓AC,↓AB,↓AA,gi,gi0,hN,append_assoc,cons_append,nil_append,g,g0,z,hy,Ai];refine AY (M:=mskOf (pol1.mask 48) (pol1.gc 48) (pol1.acts 48) N 3) (by rfl) 0 (fun i=>(⟨31,[(19,I i),(18,I 0),(17,.sl false []),(2,.rf N 1 0 0)],Hc (a++[set])++[.row 1 [.yld id] 0]⟩:St)) (fun _=>True) (fun i hi=>absurd hi (Nat.not_lt_zero _)) ?_ trivial _ ?_
    ·intro _;simp +contextual -implicitDefEqProofs (disch:=omega) only[Tryz.f48,dd48,go_sem,simprocAttr,mu48,↓AD,↓AC,↓AB,↓AA];exact hend _ _ _
    ·exact hpr _ _ _ _ rfl (by simp[AV.underL,AV.under])
   ·have hset:setsR (.mk op set kids mn mxx md nn neg)=setsL kids:=by simp[setsR,h1]
    rw[hset]at hm |-;simp +contextual -implicitDefEqProofs (disch:=omega) only[Tryz.f48,dd48,go_sem,simprocAttr,mu48,↓AD,↓AC,↓AB,↓AA,gi,gi0,hN,append_assoc,cons_append,nil_append,g,g0,z,h1,Ai];refine AY (M:=mskOf (pol1.mask 48) (pol1.gc 48) (pol1.acts 48) N 3) (by rfl) kids.length (fun i=>(⟨31,[(19,I i),(18,I kids.length),(17,.sl false (kids.map reAV)),(2,.rf N 1 0 0)],Hc (a++setsL (kids.take i))++[.row 1 [.yld id] 0]⟩:St)) (fun _=>True) ?_ ?_ trivial _ ?_
    ·intro i hi _;obtain⟨k,hk⟩:∃ k,kids[i]?=some k:=⟨_,getElem?_eq_getElem hi⟩;have hk':(kids.map reAV)[i]?=some (reAV k):=by simp[hk]
     have hlt:(i:Int)<(kids.length:Int):=by omega
     have h24:=d24 k;simp +contextual -implicitDefEqProofs (disch:=omega) only[Tryz.f48,dd48,go_sem,simprocAttr,mu48,↓AD,↓AC,↓AB,↓AA,hN,append_assoc,cons_append,nil_append,g,g0,z,hk',hlt,h24,AH,AI,AL];have hkm:=mem_of_getElem? hk;have hst:=LN hk;have hle:(setsL (kids.take (i+1))).length<=(setsL kids).length:=by
      conv=>rhs;rw[<- List.take_append_drop (i+1) kids,Ey,length_append]
      omega
     rw[hst,length_append]at hle;have hwk:=Re.wtL_mem hkm;have key:=ih (by omega) k (by simp only[Re.wt]at hw;omega) (hkid k hkm) (y48 hC hc k k) (ib:=N+2) (fun a=>by rw[g];rfl) (a++setsL (kids.take i)) (by rw[length_append];omega);rw[append_assoc,<- hst]at key;refine N3 (c:=c) (L:=N+3) (mk:=some [2]) (by simp[hN]) (hc.trans (by kernel_rfl)) rfl rfl rfl (by decide) (by simp only[append_assoc,cons_append,nil_append];exact key) (HB (by rw[g];rfl)) ?_;have hwi:IntKind.i64.wrap ((i:Int)+1)=((i+1:Nat):Int):=by
      have:=Re.wtL_len kids;simp only[Re.wt]at hw;rw[i64_in]<;>omega
     simp +contextual -implicitDefEqProofs (disch:=omega) only[Tryz.f48,dd48,go_sem,simprocAttr,mu48,↓AD,↓AC,↓AB,↓AA,z,hwi];exact hpr _ _ _ _ rfl (by simp[AV.underL,AV.under,AE _ _ (AG kids)])
    ·intro _;simp +contextual -implicitDefEqProofs (disch:=omega) only[Tryz.f48,dd48,go_sem,simprocAttr,mu48,↓AD,↓AC,↓AB,↓AA];rw[List.take_length];exact hend _ _ _
    ·have e:Hc a=Hc (a++setsL (List.take 0 kids)):=by simp[setsL]
     rw[e];exact hpr _ _ _ _ rfl (by simp[AV.underL,AV.under,AE _ _ (AG kids)])
end
end Go.Ev
