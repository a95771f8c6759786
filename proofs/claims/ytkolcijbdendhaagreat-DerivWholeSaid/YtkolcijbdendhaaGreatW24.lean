/- Valid and regular trees are as they should be. -/
import Derived.Test.YtkolcijbdendhaaGreatW23
set_option linter.unusedVariables false
set_option linter.unusedSimpArgs false
open List (all_append append_nil length_nil map_append mem_cons mem_singleton)
open Bool (and_eq_true)
open Go.Proofs Go.RowKit Go.IntWalk
set_option maxHeartbeats 8000000
set_option maxRecDepth 100000
namespace Go.Ev
theorem OL:∀ {l:List (Int×Int)},(∀ p∈l,p.1<=p.2)->(∀(i:Nat) (p q:Int×Int),l[i]?=some p->l[i+1]?=some q->p.2+2<=q.1)->l.Pairwise fun p q=>p.2+2<=q.1
 | [],_,_=>.nil
 | [x],_,_=>by simp
 | x::y::l,hv,h=>by
   have h1:=h 0 x y rfl rfl;have ih:=OL (l:=y::l) (fun p hp=>hv p (List.mem_cons_of_mem _ hp)) fun i p q hp hq=>h (i+1) p q (by simpa using hp) (by simpa using hq);refine List.pairwise_cons.2 ⟨fun z hz=>?_,ih⟩;rcases mem_cons.1 hz with rfl|hz
   ·exact h1
   ·have a:=(List.pairwise_cons.1 ih).1 z hz;have b:=hv y (by simp);omega
theorem Pi {s:List (Int×Int)}{top:Int} (h:spansG s top=true) (ht:top<=1114111):SetN s:=by
 simp only[spansG,and_eq_true,decide_eq_true_eq,Bool.not_eq_true']at h;obtain⟨hl,hb⟩:=h;rw[List.any_eq_false]at hb;have hb':∀ k,k<s.length->badS s top k=false:=fun k hk=>by simpa using hb k (List.mem_range.2 hk)
 have hg:∀(k:Nat) (p:Int×Int),s[k]?=some p->0<=p.1/\p.1<=p.2/\p.2<=top:=fun k p hp=>Jt hp (hb' k (List.getElem?_eq_some_iff.1 hp).1);refine⟨OL (fun p hp=>?_) fun i p q hp hq=>?_,fun p hp=>?_,hl⟩
 ·obtain⟨k,hk⟩:=List.getElem?_of_mem hp;exact(hg k p hk).2.1
 ·have h1:=hg (i+1) q hq;have h2:=FV (top:=top) hq hp (by omega);rw[hb' (i+1) (List.getElem?_eq_some_iff.1 hq).1]at h2;have:=of_decide_eq_false h2.symm;omega
 ·obtain⟨k,hk⟩:=List.getElem?_of_mem hp;have:=hg k p hk;exact⟨this.1,this.2.1,by omega⟩
theorem SE {caps top:Int} (ht:top<=1114111):∀(N:Nat) (t:Re),t.wt<=N->wholeG caps top t=true->regG t=true->OkD t:=by
 intro N
 induction N with
 | zero=>intro t h;have:=t.wt_pos;omega
 | succ N ihN=>
   intro t h hw hr;obtain⟨op,set,kids,mn,mx,md,n,neg⟩:=t;have hwt:1+set.length+Re.wtL kids=(Re.mk op set kids mn mx md n neg).wt:=by simp[Re.wt]
   rw[wholeG,and_eq_true,B7]at hw;obtain⟨hf,hk⟩:=hw;rw[regG,and_eq_true,GV]at hr;obtain⟨hr1,hr2⟩:=hr;have hrk:∀ k∈kids,regG k=true:=fun k hk=>by
    have h2:(kids.any fun k=>!regG k)=false:=by simpa using hr2
    have:=List.any_eq_false.1 h2 k hk
    simpa using this
   have ih:∀ k∈kids,OkD k:=fun k hk'=>ihN k (by have:=Re.wtL_mem hk';omega) (hk k hk') (hrk k hk');simp only[formedG,and_eq_true,decide_eq_true_eq]at hf;obtain⟨⟨⟨⟨⟨⟨f1,f2⟩,f3⟩,f4⟩,f5⟩,f6⟩,f7⟩:=hf;have hneg:∀(h7:op≠7) (h8:op≠8),neg=false:=fun h7 h8=>by
    cases neg with
    | false=>rfl
    | true=>simp[h7,h8]at f7
   have hset:op≠1->set=[]:=fun h1=>by
    rw[if_neg h1]at f4;exact List.length_eq_zero_iff.1 (by simpa using f4)
   have hmm:op≠4->mn=0/\mx=0/\md=0:=fun h4=>by
    rw[if_neg h4]at f5
    simpa [and_eq_true,and_assoc] using f5
   have hops:op=0∨op=1∨op=2∨op=3∨op=4∨op=5:=by
    simp only[Bool.or_eq_true,decide_eq_true_eq,and_eq_true]at hr1;omega
   rcases hops with rfl|rfl|rfl|rfl|rfl|rfl
   ·obtain⟨rfl,rfl,rfl⟩:=hmm (by omega);obtain rfl:=hset (by omega);obtain rfl:=hneg (by omega) (by omega);have hk0:kids=[]:=List.length_eq_zero_iff.1 (by simpa [kidsG] using f3);have hn:n=0:=by simpa using f6
    subst hk0;subst hn;exact .empty
   ·obtain⟨rfl,rfl,rfl⟩:=hmm (by omega);obtain rfl:=hneg (by omega) (by omega);have hk0:kids=[]:=List.length_eq_zero_iff.1 (by simpa [kidsG] using f3);have hn:n=0:=by simpa using f6
    subst hk0;subst hn;rw[if_pos rfl]at f4;exact .set set (Pi f4 ht)
   ·obtain⟨rfl,rfl,rfl⟩:=hmm (by omega);obtain rfl:=hset (by omega);obtain rfl:=hneg (by omega) (by omega);have hn:n=0:=by simpa using f6
    subst hn;exact .cat kids ih
   ·obtain⟨rfl,rfl,rfl⟩:=hmm (by omega);obtain rfl:=hset (by omega);obtain rfl:=hneg (by omega) (by omega);have hn:n=0:=by simpa using f6
    subst hn;exact .alt kids ih
   ·obtain rfl:=hset (by omega);obtain rfl:=hneg (by omega) (by omega);have hn:n=0:=by simpa using f6
    have hk1:kids.length=1:=by simpa [kidsG] using f3
    obtain⟨k,rfl⟩:=List.length_eq_one_iff.1 hk1;subst hn;rw[if_pos rfl]at f5;simp only[repG,and_eq_true,decide_eq_true_eq,Bool.or_eq_true,beq_iff_eq]at f5;obtain⟨⟨⟨⟨g1,g2⟩,g3⟩,g4⟩,g5⟩:=f5;refine .rep k mn mx md (ih k (by simp)) ⟨g1,g2⟩ ?_;rcases g5 with e|⟨⟨e1,e2⟩,e3⟩
    ·exact .inl e
    ·exact .inr ⟨e1,e2,e3⟩
   ·obtain⟨rfl,rfl,rfl⟩:=hmm (by omega);obtain rfl:=hset (by omega);obtain rfl:=hneg (by omega) (by omega);have hk1:kids.length=1:=by simpa [kidsG] using f3
    obtain⟨k,rfl⟩:=List.length_eq_one_iff.1 hk1;exact .cap k n (ih k (by simp))
end Go.Ev
namespace Go.Ev
attribute [local go_sem] evBin AV.cells Ax BB bndO bnd evEq eqCells not_false_eq_true not_true_eq_false toList_some Array.size_empty List.length_append tySzE List.head?_drop Nat.mul_one Ak At Ag Al Am Ad
section
attribute [local go_sem] evAppend map_append
def badX (top x:Int):Bool:=decide (x<0)||decide (top<x)
def wholeA (p:Pat) (xs:List Int):AV:=if chkP p≠0 then .tup [.bool false,I (chkP p)] else if 65536<xs.length then .tup [.bool false,I 4] else if(xs.any (badX (topI p.runes)))=true then .tup [.bool false,I 5] else wA (resW p.re xs)
theorem Jp {p:Pat} (h:chkP p=0):OkD p.re/\p.re.size<=256/\wholeG p.caps (topI p.runes) p.re=true:=by
 unfold chkP at h;split at h
 ·rename_i h1;exact absurd h h1
 ·rename_i h1;split at h
  ·rename_i hr;have hv:validP p=0:=by simpa using h1
   unfold validP at hv;split at hv
   ·cases hv
   ·rename_i h2;split at hv
    ·cases hv
    ·rename_i h3;simp only[not_or]at h3;have hwg:wholeG p.caps (topI p.runes) p.re=true:=by simpa using h3.2.2
     exact⟨SE (F7 _) _ p.re (Nat.le_refl _) hwg hr,by omega,hwg⟩
  ·cases h
def KnOk (ts:List Re) (fs:List (AV×AV)):Prop:=∀ k v,(k,v)∈fs->∃(a b:Nat) (x:Int) (ta tb:Re),k=.agg [I a,I x]/\v=I b/\ts[a]?=some ta/\ts[b]?=some tb/\stepR x ta=some tb
theorem Qs {a b x y:Int}:AV.beq (.agg [I a,I x]) (.agg [I b,I y])=true->a=b/\x=y:=by
 intro h;have:=AV.eq_of_beq _ _ h;simp at this;exact this
theorem MR {ts:List Re}:∀ {fs:List (AV×AV)}{a:Nat}{x:Int}{v:AV}{ta:Re},KnOk ts fs->ts[a]?=some ta->findMp (.agg [I a,I x]) fs=some v->∃(b:Nat) (tb:Re),v=I b/\ts[b]?=some tb/\stepR x ta=some tb
 | [],a,x,v,ta,_,_,h=>by cases h
 | (k,u)::fs,a,x,v,ta,hk,ha,h=>by
   simp only[findMp]at h;split at h
   ·rename_i hb;cases h;obtain⟨a',b,x',ta',tb,rfl,rfl,h1,h2,h3⟩:=hk k u (.head _);obtain⟨e1,e2⟩:=Qs hb;obtain rfl:a' = a:=by omega
    subst e2;rw[ha]at h1;obtain rfl:=Option.some.inj h1;exact⟨b,tb,rfl,h2,h3⟩
   ·exact MR (fun k v hkv=>hk k v (.tail _ hkv)) ha h
theorem Ld {ts:List Re}{x0 v0:AV}:∀ {fs:List (AV×AV)},KnOk ts fs->(∃(a b:Nat) (x:Int) (ta tb:Re),x0=.agg [I a,I x]/\v0=I b/\ts[a]?=some ta/\ts[b]?=some tb/\stepR x ta=some tb)->KnOk ts (updMp x0 v0 fs)
 | [],_,h=>fun k v hkv=>by
   simp only[updMp,mem_singleton,Prod.mk.injEq]at hkv;rw[hkv.1,hkv.2];exact h
 | (k',u')::fs,hk,h=>fun k v hkv=>by
   simp only[updMp]at hkv;split at hkv
   ·rename_i hb;rcases mem_cons.1 hkv with e|e
    ·simp only[Prod.mk.injEq]at e;rw[e.1,e.2,AV.eq_of_beq _ _ hb];exact h
    ·exact hk k v (.tail _ e)
   ·rcases mem_cons.1 hkv with e|e
    ·exact hk k v (e ▸ .head _)
    ·exact Ld (fun k v hkv=>hk k v (.tail _ hkv)) h k v e
theorem QC {ts:List Re}{fs:List (AV×AV)} (h:KnOk ts fs) (t:Re):KnOk (ts++[t]) fs:=fun k v hkv=>by
 obtain⟨a,b,x,ta,tb,h1,h2,h3,h4,h5⟩:=h k v hkv;exact⟨a,b,x,ta,tb,h1,h2,by rw[List.getElem?_append_left (List.getElem?_eq_some_iff.1 h3).1];exact h3,by rw[List.getElem?_append_left (List.getElem?_eq_some_iff.1 h4).1];exact h4,h5⟩
abbrev KT:KK:=.flat 79 [some .i64,some .i64]
abbrev whH (rp rt:MB) (ts:List Re) (fs:List (AV×AV)) (K:List MB):List MB:=rp::rt::.mp .str (entN ts 0)::.row 2 [.agg [.ms 4 8 ts.length 0 ts.length,.mpr 2]] 0::.row 8 (ts.map reAV) 0::.mp KT fs::K
theorem LH (rp rt:MB) (ts:List Re) (fs:List (AV×AV)) (K:List MB):StH 3 4 2 ts (whH rp rt ts fs K):=⟨rfl,rfl,rfl,by decide,by decide,by decide⟩
theorem n28 (rp rt:MB) (ts:List Re) (fs:List (AV×AV)) (K:List MB) {t:Re} (hw:t.wt<=100000) (hN:NF t) (hl:ts.length<=100000) :
  ∃(b:Nat) (ts':List Re),call Pg pol1 28 [.rf 3 1 0 0,reAV t] (whH rp rt ts fs K)=some (I b,whH rp rt ts' fs K)/\ts'[b]?=some t/\(ts' = ts∨ts' = ts++[t]):=by
 rcases PA t ts 0 with ⟨k,h1,h2⟩|⟨h1,h2⟩
 ·rw[Nat.zero_add]at h2;exact⟨k,ts,Md (LH rp rt ts fs K) hw hN h2,h1,.inl rfl⟩
 ·exact⟨ts.length,ts++[t],GE (LH rp rt ts fs K) hw hN hl h1 h2,by simp,.inr rfl⟩
theorem d17 (p:Pat) (xs:List Int) (hw:p.re.wt<=1000000) (hx:xs.length<=1000∨65536<xs.length) (hxb:xs.length<=1000000000) (H:List MB):call Pg pol1 17 [patAV p,.sl false (xs.map I)] H=some (wholeA p xs,H):=by
 have h23:=d23 p hw;have h26:=d26 p;have hck:=Jp (p:=p);have hplA:AV.plain (wholeA p xs)=true:=by
  unfold wholeA;split
  ·rfl
  ·split
   ·rfl
   ·split
    ·rfl
    ·cases resW p.re xs<;>rfl
 have hA:wholeA p xs=if chkP p≠0 then .tup [.bool false,I (chkP p)] else if 65536<xs.length then .tup [.bool false,I 4] else if(xs.any (badX (topI p.runes)))=true then .tup [.bool false,I 5] else wA (resW p.re xs):=rfl
 obtain⟨re,caps,runes⟩:=p;have hl8:=AI re;have htk8:∀ l,List.take 8 (reC re++l)=reC re:=fun l=>by
  rw[List.take_append_of_le_length (by omega)];exact List.take_of_length_le (by omega)
 have htk10:List.take 10 (reC re++[I caps,.bool runes])=reC re++[I caps,.bool runes]:=List.take_of_length_le (by simp[hl8]);have hall:=AN re;have hpc:=Ai ⟨re,caps,runes⟩;refine AR Tryz.func17 rfl rfl rfl rfl rfl rfl (fun _=>rfl) (by simp[AV.plainL,AV.plain,AG];exact Ai _) hplA ?_ H;rw[hA];simp only at hck hw;by_cases hc:chkP ⟨re,caps,runes⟩=0
 ·rw[if_neg (by simpa using hc)];obtain⟨hok,hsz,hwh⟩:=hck hc;rw[hc]at h23;by_cases hbig:65536<xs.length
  ·have hbig':(65536:Int)<(xs.length:Int):=by omega
   rw[if_pos hbig];simp +contextual -implicitDefEqProofs (disch:=omega) only[Tryz.f17,dd17,go_sem,simprocAttr,mu17,↓AD,↓AC,↓AB,↓AA,h23,hbig',hl8,htk8,htk10,hall,all_append];exact fzEq rfl rfl
  ·have hbig':¬ (65536:Int)<(xs.length:Int):=by omega
   rw[if_neg hbig];simp +contextual -implicitDefEqProofs (disch:=omega) only[Tryz.f17,dd17,go_sem,simprocAttr,mu17,↓AD,↓AC,↓AB,↓AA,h23,hbig',hl8,htk8,htk10,hall,all_append];refine AY (M:=(mskOf (pol1.mask 17) (pol1.gc 17) (pol1.acts 17) 0 7)) (by rfl) xs.length (fun i=>(⟨122,[(30,I i),(29,I xs.length),(28,.sl false (xs.map I)),(2,.rf 0 1 0 0),(1,.sl false (xs.map I))],[.row 10 [.agg (reC re++[I caps,.bool runes])] 0]⟩:St)) (fun i=>(xs.take i).any (badX (topI runes))=false) ?_ ?_ rfl _ (AP (n:=1) rfl rfl (by rfl) (by rfl) (by simp[AV.underL,AV.under,AE _ _ (AG xs)]) (by simp[MB.under,AV.underL,AV.under,AE _ _ hpc]))
   ·intro i hi hinv;obtain⟨x,hxi⟩:∃ x,xs[i]?=some x:=⟨_,List.getElem?_eq_getElem hi⟩;have hx':(xs.map I)[i]?=some (I x):=by simp[hxi]
    have hlt:(i:Int)<(xs.length:Int):=by omega
    have hst:(xs.take (i+1)).any (badX (topI runes))=badX (topI runes) x:=by rw[AW hxi,List.any_append,hinv];simp
    have hPC:∀ b:Bool,(xs.take (i+1)).any (badX (topI runes))=b->b=true->xs.any (badX (topI runes))=true:=fun b h1 h2=>by
     rw[<- List.take_append_drop (i+1) xs,List.any_append,h1,h2];rfl
    simp only at h26;generalize topI runes=top at *;by_cases x0:x<0
    ·have hb:badX top x=true:=by simp[badX,x0]
     rw[if_pos (hPC _ hst hb)];simp +contextual -implicitDefEqProofs (disch:=omega) only[Tryz.f17,dd17,go_sem,simprocAttr,mu17,↓AD,↓AC,↓AB,↓AA,hx',hlt,x0];exact fzEq rfl rfl
    ·by_cases x1:top<x
     ·have hb:badX top x=true:=by simp[badX,x1]
      rw[if_pos (hPC _ hst hb)];simp +contextual -implicitDefEqProofs (disch:=omega) only[Tryz.f17,dd17,go_sem,simprocAttr,mu17,↓AD,↓AC,↓AB,↓AA,hx',hlt,x0,x1,h26,hl8,htk10,hall,all_append];exact fzEq rfl rfl
     ·have hb:badX top x=false:=by simp[badX,x0,x1]
      rw[hb]at hst;simp +contextual -implicitDefEqProofs (disch:=omega) only[Tryz.f17,dd17,go_sem,simprocAttr,mu17,↓AD,↓AC,↓AB,↓AA,hx',hlt,x0,x1,h26,hl8,htk10,hall,all_append];refine⟨hst,?_⟩;exact AP (n:=1) rfl rfl (by rfl) (by rfl) (by simp[AV.underL,AV.under,AE _ _ (AG xs)]) (by simp[MB.under,AV.underL,AV.under,AE _ _ hpc])
   ·intro hinv;rw[List.take_length]at hinv;rw[hinv];have h65:=hok.wt65;have h27:=d27 re (by omega) hok;rw[if_neg (by simp)];unfold resW;cases hbd:badR re with
    | true=>
      rw[hbd,if_pos rfl]at h27;rw[if_pos rfl];simp +contextual -implicitDefEqProofs (disch:=omega) only[Tryz.f17,dd17,go_sem,simprocAttr,mu17,↓AD,↓AC,↓AB,↓AA,h27,hl8,htk8,htk10,hall,all_append,AI,AJ,AN];exact fzEq rfl rfl
    | false=>
      rw[hbd,if_neg (by simp)]at h27;rw[if_neg (by simp)];have hS0:=FX hok hsz hbd;generalize nf re=t0 at *;have hlen:xs.length<=1000:=by omega
      have hfind0:findMp (.str (nameS t0)) (entN [] 0)=none:=rfl;have n0:∀ rp rt:MB,call Pg pol1 28 [.rf 3 1 0 0,reAV t0] [rp,rt,.mp .str [],.row 2 [.agg [.ms 4 8 0 0 0,.mpr 2]] 0,.row 8 [] 0,.mp KT []]=some (I 0,[rp,rt,.mp .str (entN [t0] 0),.row 2 [.agg [.ms 4 8 1 0 1,.mpr 2]] 0,.row 8 [reAV t0] 0,.mp KT []]):=fun rp rt=>
       GE (LH rp rt [] [] []) (by have:=hS0.wt;omega) hS0.nf (by simp) (by simp) hfind0
      have hplK:∀(ts:List Re) (fs:List (AV×AV)),KnOk ts fs->MB.underE 6 fs=true:=fun ts fs h=>by
       clear h27 n0 hfind0
       induction fs with
       | nil=>rfl
       | cons kv fs ih=>
         obtain⟨k,v⟩:=kv;obtain⟨a,b,x,ta,tb,rfl,rfl,_⟩:=h k v (.head _);simp[MB.underE,AV.under,AV.underL,ih fun k v hkv=>h k v (.tail _ hkv)]
      simp +contextual -implicitDefEqProofs (disch:=omega) only[Tryz.f17,dd17,go_sem,simprocAttr,mu17,↓AD,↓AC,↓AB,↓AA,h27,n0,hl8,htk8,htk10,hall,all_append,AI,AJ,AN]
      refine Cp (σ:=Nat×List Re×Nat×List (AV×AV)) (M:=(mskOf (pol1.mask 17) (pol1.gc 17) (pol1.acts 17) 0 19)) (by rfl) (fun s=>(⟨122,[(61,I s.1),(60,I xs.length),(59,.sl false (xs.map I)),(13,I s.2.2.1),(12,.mpr 5),(11,.rf 3 1 0 0)],whH (.row 10 [.agg (reC re++[I caps,.bool runes])] 0) (.row 8 [reAV t0] 0) s.2.1 s.2.2.2 []⟩:St))
       (fun s=>s.1<=xs.length/\s.2.1.length<=s.1+1/\(∀ t∈s.2.1,StT t)/\KnOk s.2.1 s.2.2.2/\∃ r,s.2.1[s.2.2.1]?=some r/\runR (xs.take s.1) t0=some r) (fun s=>xs.length-s.1) (0,[t0],0,[]) ?_ ⟨Nat.zero_le _,by simp,fun t ht=>?_,(fun k v h=>(by cases h)),t0,rfl,rfl⟩ _ ?_
      ·rintro⟨i,ts,now,fs⟩ ⟨h1,h2,h3,h4,r,h5,h6⟩;simp only at h1 h2 h3 h4 h5 h6;have hS:StT r:=h3 r (List.mem_of_getElem? h5);by_cases hl:i<xs.length
       ·obtain⟨x,hxi⟩:∃ x,xs[i]?=some x:=⟨_,List.getElem?_eq_getElem hl⟩;have hx':(xs.map I)[i]?=some (I x):=by simp[hxi]
        have hl':(i:Int)<(xs.length:Int):=by omega
        have hsn:runR (xs.take (i+1)) t0=stepR x r:=by rw[AW hxi,E1,h6];rfl
        have hnl:=(List.getElem?_eq_some_iff.1 h5).1;cases hf:findMp (.agg [I now,I x]) fs with
        | some v=>
          obtain⟨b,tb,rfl,hb1,hb2⟩:=MR h4 h5 hf;rw[hb2]at hsn;simp +contextual -implicitDefEqProofs (disch:=omega) only[Tryz.f17,dd17,go_sem,simprocAttr,mu17,↓AD,↓AC,↓AB,↓AA,hx',hl',hf,whH];refine⟨rfl,(i+1,ts,b,fs),⟨by show i+1<=_;omega,by show ts.length<=i+1+1;omega,h3,h4,tb,hb1,hsn⟩,by show xs.length-(i+1)<xs.length-i;omega,?_⟩;exact AP (n:=6) rfl rfl (by rfl) (by rfl) (by simp[AV.underL,AV.under,AE _ _ (AG xs)]) (by simp[MB.under,AV.underL,AV.under,AE _ _ hpc,AE _ _ (AO t0),AE _ _ (AH ts),Bn,MB.underE,hplK _ _ h4])
        | none=>
          have hnow:(ts.map reAV)[now]?=some (reAV r):=by simp[h5]
          have h29:=d29 hS.size hS.nf.ok 9 1114111 (hS.nf.whole 9) x;cases hs:stepR x r with
          | none=>
            rw[hs]at h29 hsn;have hn:runR xs t0=none:=by
             rw[<- List.take_append_drop (i+1) xs];exact E3 hsn
            rw[hn];unfold resA at h29;simp +contextual -implicitDefEqProofs (disch:=omega) only[Tryz.f17,dd17,go_sem,simprocAttr,mu17,↓AD,↓AC,↓AB,↓AA,hx',hl',hf,h29,hnow,whH,AI,AJ,AN];exact⟨rfl,fzEq rfl rfl⟩
          | some q=>
            rw[hs]at h29 hsn;have hS2:=GL hS hs;unfold resA at h29;have hd8:(reC q).drop 8=[]:=List.drop_of_length_le (by rw[AI];omega);obtain⟨b,ts',hc28,hb1,hb2⟩:=n28 (.row 10 [.agg (reC re++[I caps,.bool runes])] 0) (.row 8 [reAV t0] 0) ts fs [.row 8 [reAV q] 0] (by have:=hS2.wt;omega) hS2.nf (by omega);have hlt':ts'.length<=i+2:=by
             rcases hb2 with rfl|rfl
             ·omega
             ·simp;omega
            have hbl:=(List.getElem?_eq_some_iff.1 hb1).1;have hno:¬ (1024:Int)<(ts'.length:Int):=by omega
            have hk':KnOk ts' (updMp (.agg [I now,I x]) (I b) fs):=by
             rcases hb2 with rfl|rfl
             ·exact Ld h4 ⟨now,b,x,r,q,rfl,rfl,h5,hb1,hs⟩
             ·exact Ld (QC h4 _) ⟨now,b,x,r,q,rfl,rfl,by rw[List.getElem?_append_left hnl];exact h5,hb1,hs⟩
            simp +contextual -implicitDefEqProofs (disch:=omega) only[Tryz.f17,dd17,go_sem,simprocAttr,mu17,↓AD,↓AC,↓AB,↓AA,hx',hl',hf,h29,hnow,hc28,hno,hd8,whH,AI,AJ,AN];refine⟨rfl,rfl,(i+1,ts',b,updMp (.agg [I now,I x]) (I b) fs),⟨by show i+1<=_;omega,hlt',fun t ht=>?_,hk',q,hb1,hsn⟩,by show xs.length-(i+1)<xs.length-i;omega,?_⟩
            ·rcases hb2 with rfl|rfl
             ·exact h3 t ht
             ·rcases List.mem_append.1 ht with h|h
              ·exact h3 t h
              ·obtain rfl:=mem_singleton.1 h;exact hS2
            ·exact AP (n:=6) rfl rfl (by rfl) (by rfl) (by simp[AV.underL,AV.under,AE _ _ (AG xs)]) (by simp[MB.under,AV.underL,AV.under,AE _ _ hpc,AE _ _ (AO t0),AE _ _ (AH ts'),Bn,MB.underE,hplK _ _ hk'])
       ·have hl':¬ (i:Int)<(xs.length:Int):=by omega
        have hnow:(ts.map reAV)[now]?=some (reAV r):=by simp[h5]
        rw[List.take_of_length_le (by omega)]at h6;rw[h6];have h21:=f105 r (by have:=hS.wt;omega) 9 1114111 (hS.nf.whole 9);unfold wA;simp +contextual -implicitDefEqProofs (disch:=omega) only[Tryz.f17,dd17,go_sem,simprocAttr,mu17,↓AD,↓AC,↓AB,↓AA,hl',h21,hnow,whH,AI,AJ,AN];have hnl:=(List.getElem?_eq_some_iff.1 h5).1;exact⟨by omega,fzEq rfl rfl⟩
      ·simp only[mem_singleton]at ht;subst ht;exact hS0
      ·exact AP (n:=6) rfl rfl (by rfl) (by rfl) (by simp[AV.underL,AV.under,AE _ _ (AG xs)]) (by simp[MB.under,AV.underL,AV.under,AE _ _ hpc,AE _ _ (AO t0),Bn,MB.underE])
 ·rw[if_pos hc];simp +contextual -implicitDefEqProofs (disch:=omega) only[Tryz.f17,dd17,go_sem,simprocAttr,mu17,↓AD,↓AC,↓AB,↓AA,h23,hc,hl8,htk8,htk10,hall,all_append];exact fzEq rfl rfl
end
section
attribute [local go_sem] evAppend map_append
theorem Au {α:Type} (K:List α) (b:α):(K++[b])[K.length]?=some b:=by simp
theorem Aq {α:Type} (K:List α) (b c:α):(K++[b]).set K.length c=K++[c]:=by simp
theorem MY (j:List AV->List MB->Option (List AV×List MB)) (a:Bool) {xs:List AV} (H:List MB) (hp:AV.plainL xs=true):fzA j (.sl a xs) H=some (.sl false xs,H):=by
 unfold fzA;rw[A7 j xs H hp]
theorem JZ (a b:Bool) (op:Int) (set:List (Int×Int)) (kids:List Re) (mn mx md n:Int) (neg:Bool) (H:List MB) :
  fz (.agg [I op,.sl a (set.map spanAV),.sl b (kids.map reAV),I mn,I mx,I md,I n,.bool neg]) H=some (.agg [I op,.sl false (set.map spanAV),.sl false (kids.map reAV),I mn,I mx,I md,I n,.bool neg],H):=by
 simp only[fz,QP,fzL,MY _ _ _ (AF set),MY _ _ _ (AH kids),MZ];rfl
theorem Ar (r:Re):(reC r).drop 8=[]:=List.drop_of_length_le (by rw[AI];omega)
theorem BG (r:Re):AV.plain (reAV r)=true:=AO r
structure MS where
 at_:Int
 left:Int
 caps:Int
abbrev mkAV (l:List Int) (uses:Int) (s:MS):AV:=.agg [.sl false (l.map I),I s.at_,I uses,I s.left,I s.caps]
abbrev mH (b0:MB) (l:List Int) (uses:Int) (s:MS) (K:List MB):List MB:=b0::.row 5 [mkAV l uses s] 0::K
def nx (l:List Int) (n:Int) (s:MS):Int×MS:=(pickI l s.at_ n,⟨s.at_+1,s.left,s.caps⟩)
theorem MT (n:Nat) (b0 x y:MB) (K L:List MB) (h:MB.under n y=true):keptOk n (b0::x::K) (b0::y::(K++L))=true:=by
 simp only[keptOk,MB.beq_refl,h,Bool.true_or,Bool.or_true,Bool.true_and];exact BY n L K
theorem LT {f:Nat} (hk:pol1.keep f=false) (ho:pol1.own f=false) {l:List Int}{uses:Int}{s s':MS}{b0:MB}{K L:List MB}{r r':AV} (hz:∀ H,fz r H=some (r',H)) (hp:AV.plain r' = true) :
  retPol pol1 f (mH b0 l uses s K) r (mH b0 l uses s' (K++L))=some (r',mH b0 l uses s' K):=by
 have h1:=MT (mH b0 l uses s K).length b0 (.row 5 [mkAV l uses s] 0) (.row 5 [mkAV l uses s'] 0) K L (by simp[MB.under,AV.underL,AV.under,AE,AG]);unfold retPol;rw[if_neg (by rw[hk];exact Bool.false_ne_true),if_neg (by rw[ho];exact Bool.false_ne_true)];simp only[hz,AK _ _ hp,h1,and_self,if_true];simp
theorem Pm {f:Nat} (hk:pol1.keep f=false) (ho:pol1.own f=false) {l:List Int}{uses:Int}{s s':MS}{b0:MB}{K:List MB}{r r':AV} (hz:∀ H,fz r H=some (r',H)) (hp:AV.plain r' = true) :
  retPol pol1 f (mH b0 l uses s K) r (mH b0 l uses s' K)=some (r',mH b0 l uses s' K):=by
 have:=LT (L:=[]) hk ho (s:=s) (s':=s') (K:=K) (l:=l) (uses:=uses) (b0:=b0) hz hp
 rwa [append_nil]at this
theorem f97 (l:List Int) (hl:∀ x∈l,In64 x) (uses n:Int) (hn:n≠0) (s:MS) (hs:0<=s.at_/\s.at_<=1000000) (b0:MB) (K:List MB) :
  call Pg pol1 41 [.rf 1 1 0 0,I n] (mH b0 l uses s K)=some (I (nx l n s).1,mH b0 l uses (nx l n s).2 K):=by
 obtain⟨at_,left,caps⟩:=s;simp only at hs;have h57:=f57 l at_ n hl hn;have fr:frzArgs pol1 41 0 [.rf 1 1 0 0,I n] (mH b0 l uses ⟨at_,left,caps⟩ K)=some ([.rf 1 1 0 0,I n],mH b0 l uses ⟨at_,left,caps⟩ K):=AS _ _ _ rfl;refine AX (pol:=pol1) Tryz.func41 rfl rfl rfl rfl fr ?_;have hsub:at_+1-1=at_:=by omega
 simp +contextual (disch:=omega) only[Tryz.f41,dd41,go_sem,simprocAttr,mu41,↓AD,↓AC,↓AB,↓AA,h57,hsub];repeat' (first|intro _|apply And.intro|(unfold dOk;kernel_rfl)|exact St.beq_refl _|exact AQ|(show altO _ _ _ _=true;kernel_rfl)|(show (_||_)=true;kernel_rfl)|(show (_&&_)=true;kernel_rfl))
 exact Pm (s:=⟨at_,left,caps⟩) (s':=⟨at_+1,left,caps⟩) rfl rfl (fun H=>rfl) rfl
def smallS:List (List (Int×Int)):=[[(97,97)],[(98,98)],[(97,98)],[(99,99)],[(97,99)],[(0,96),(98,255)],[(10,10),(97,97)],[]]
def setM (l:List Int) (s:MS):Re×MS:=(.mk 1 (smallS.getD ((pickI l s.at_ 15).tdiv 2).toNat []) [] 0 0 0 0 false,⟨s.at_+1,s.left,s.caps⟩)
theorem f98 (l:List Int) (hl:∀ x∈l,In64 x) (uses:Int) (s:MS) (hs:0<=s.at_/\s.at_<=1000000) (b0:MB) (K:List MB) :
  call Pg pol1 42 [.rf 1 1 0 0] (mH b0 l uses s K)=some (reAV (setM l s).1,mH b0 l uses (setM l s).2 K):=by
 obtain⟨at_,left,caps⟩:=s;have h97:=fun K=>f97 l hl uses 15 (by omega) ⟨at_,left,caps⟩ hs b0 K;have fr:frzArgs pol1 42 0 [.rf 1 1 0 0] (mH b0 l uses ⟨at_,left,caps⟩ K)=some ([.rf 1 1 0 0],mH b0 l uses ⟨at_,left,caps⟩ K):=AS _ _ _ rfl;have hp:=JO (l:=l) (i:=at_) (m:=15) (by omega);simp only[nx]at h97;unfold setM;simp only;generalize pickI l at_ 15=k at *;obtain⟨j,hj,hk⟩:∃ j:Nat,j<8/\k.tdiv 2=j:=⟨(k.tdiv 2).toNat,by rw[Int.tdiv_eq_ediv_of_nonneg hp.1];omega,by rw[Int.tdiv_eq_ediv_of_nonneg hp.1];omega⟩;have hw:IntKind.i64.wrap (k.tdiv 2)=(j:Int):=by rw[hk];exact i64_in _ ⟨by omega,by omega⟩
 rw[hk,Int.toNat_natCast];obtain⟨set,hset,hsj⟩:∃ set,[AV.sl true [.agg [I 97,I 97]],.sl true [.agg [I 98,I 98]],.sl true [.agg [I 97,I 98]],.sl true [.agg [I 99,I 99]],.sl true [.agg [I 97,I 99]],.sl true [.agg [I 0,I 96],.agg [I 98,I 255]],.sl true [.agg [I 10,I 10],.agg [I 97,I 97]],.sl true []][j]?=some (.sl true (set.map spanAV))/\smallS.getD j []=set:=by
  have:j=0∨j=1∨j=2∨j=3∨j=4∨j=5∨j=6∨j=7:=by omega
  rcases this with rfl|rfl|rfl|rfl|rfl|rfl|rfl|rfl<;>exact⟨_,rfl,rfl⟩
 rw[hsj];refine AX (pol:=pol1) Tryz.func42 rfl rfl rfl rfl fr ?_;simp +contextual (disch:=omega) only[Tryz.f42,dd42,go_sem,simprocAttr,mu42,↓AD,↓AC,↓AB,↓AA,h97,hw,hset,Au,Aq];exact LT (s:=⟨at_,left,caps⟩) (s':=⟨at_+1,left,caps⟩) rfl rfl (JZ true true 1 set [] 0 0 0 0 false) (BG _)
def andI (a b:Int):Int:=IntKind.i64.wrap ((BitVec.ofInt 64 a &&& BitVec.ofInt 64 b).toNat)
theorem A8 (a b:Int):evBin .and .i64 a b=some (.int .i64 (andI a b)):=rfl
def stK (l:List Int) (tr:MS->Re×MS) (s:MS):Nat->List Re×MS
 | 0=>([],s)
 | i+1=>((stK l tr s i).1++[(tr (nx l 2 (stK l tr s i).2).2).1],(tr (nx l 2 (stK l tr s i).2).2).2)
def kidsF (l:List Int) (tr:MS->Re×MS) (s:MS):List Re×MS:=
 if(nx l 2 (stK l tr s 2).2).1=1 then((stK l tr s 3).1,(nx l 2 (stK l tr s 3).2).2) else((stK l tr s 2).1,(nx l 2 (stK l tr s 2).2).2)
def repF (l:List Int) (uses:Int) (tr:MS->Re×MS) (s:MS):Re×MS:=
 let k:=nx l 12 s
 let md:=nx l 2 k.2
 let m:Int×MS:=if 0<andI uses 8 then(if(nx l 4 md.2).1=0 then 2 else md.1,(nx l 4 md.2).2) else md
 let kid:=tr m.2
 let r:=if andI uses 32=0/\nullG kid.1=true then setM l kid.2 else kid
 (.mk 4 [] [r.1] (([0,0,0,0,1,1,1,0,2,0,1,2]:List Int).getD k.1.toNat 0) (([-1,-1,-1,1,-1,-1,2,2,2,3,1,-1]:List Int).getD k.1.toNat 0) m.1 0 false,r.2)
def capF (l:List Int) (tr:MS->Re×MS) (s:MS):Re×MS:=
 let p:Bool×MS:=if 4<s.caps+1 then(true,s) else if 0<s.caps then(decide ((nx l 9 s).1=0),(nx l 9 s).2) else(false,s)
 let q:Int×MS:=if p.1=true then(1+(nx l (max 1 p.2.caps) p.2).1,(nx l (max 1 p.2.caps) p.2).2) else(s.caps+1,p.2)
 let kid:=tr ⟨q.2.at_,q.2.left,max q.2.caps q.1⟩
 (.mk 5 [] [kid.1] 0 0 0 q.1 false,kid.2)
def leafF (l:List Int) (k:Int) (s:MS):Re×MS:=if k=0 then(.mk 0 [] [] 0 0 0 0 false,s) else setM l s
def treeStep (l:List Int) (uses:Int) (tr:MS->Re×MS) (k:Int) (s:MS):Re×MS:=
 if s.left<3∨(l.length:Int)<s.at_ then leafF l k s
 else if k<5 then(.mk 2 [] (kidsF l tr s).1 0 0 0 0 false,(kidsF l tr s).2)
 else if k<8 then(.mk 3 [] (kidsF l tr s).1 0 0 0 0 false,(kidsF l tr s).2)
 else if k<12 then repF l uses tr s
 else if(k=12∨k=13)/\0<andI uses 64 then capF l tr s
 else if k=14/\0<andI uses 16 then(.mk 11 [] [] 0 0 0 (nx l 6 s).1 false,(nx l 6 s).2)
 else if k=15/\0<andI uses 4 then
  (.mk (7+(nx l 2 (nx l 3 s).2).1) [] [(tr (nx l 2 (nx l 3 s).2).2).1] 0 0 0 0 ((nx l 3 s).1==0),(tr (nx l 2 (nx l 3 s).2).2).2)
 else if k=16/\0<andI uses 8 then(.mk 9 [] [(tr s).1] 0 0 0 0 false,(tr s).2)
 else if k=17/\0<andI uses 1/\0<s.caps then(.mk 6 [] [] 0 0 0 (1+(nx l s.caps s).1) false,(nx l s.caps s).2)
 else if k=18/\0<andI uses 2/\0<s.caps then
  (.mk 10 [] [(tr (nx l s.caps s).2).1,(tr (tr (nx l s.caps s).2).2).1] 0 0 0 (1+(nx l s.caps s).1) false,(tr (tr (nx l s.caps s).2).2).2)
 else setM l s
def treeF (l:List Int) (uses:Int):Nat->MS->Re×MS
 | 0,s=>leafF l (nx l 20 ⟨s.at_,s.left-1,s.caps⟩).1 (nx l 20 ⟨s.at_,s.left-1,s.caps⟩).2
 | d+1,s=>treeStep l uses (treeF l uses d) (nx l 20 ⟨s.at_,s.left-1,s.caps⟩).1 (nx l 20 ⟨s.at_,s.left-1,s.caps⟩).2
def mA1:Nat->Int
 | 0=>3
 | d+1=>9+3*mA1 d
def mS1:Nat->Int
 | 0=>1
 | d+1=>1+3*mS1 d
structure Pre (A S:Int) (s:MS):Prop where
 a:0<=s.at_/\s.at_+A<=1000000
 l:-1000000<=s.left-S/\s.left<=1000000
 c:0<=s.caps/\s.caps<=4
structure Post (A S:Int) (s s':MS):Prop where
 a:s.at_<=s'.at_/\s'.at_<=s.at_+A
 l:s.left-S<=s'.left/\s'.left<=s.left
 c:0<=s'.caps/\s'.caps<=4
theorem BJ (l:List Int) {n:Int} (hn:0<n) (s:MS):0<=(nx l n s).1/\(nx l n s).1<n:=JO hn
theorem Qt {H:List MB}{i n z:Nat}{els:List AV}{y:AV}{t:Bool} (hi:getRow H i=some (8,els,z)) (hn:els.length=n) (hy:(decide (y.cells.length=8)&&y.cells.all AV.ok)=true) (hz:z<=n) (hr:n+1<=4000000000) :
  evAppend Pg H 24 24 (.ms i 8 n 0 n) (.sl t [y])=some (.ms i 8 (n+1) 0 (n+1),H.set i (.row 8 (els++[y]) z)):=by
 have hs:srcElems Pg H 26 (.sl t [y])=some [y]:=rfl;rw[Ah (e:=26) (by kernel_rfl) (by kernel_rfl) (k:=8) (by kernel_rfl) (by_:=96) (by kernel_rfl) (ze:=.agg [I 0,.sl true [],.sl true [],I 0,I 0,I 0,I 0,.bool false]) (by kernel_rfl) rfl (by omega) hs (by simp only[List.all_cons,List.all_nil,hy,Bool.and_true]) hi hn hz (Ad hr (by omega))];rfl
theorem OO {f:Nat} (hk:pol1.keep f=false) (ho:pol1.own f=false) {l:List Int}{uses:Int}{s s':MS}{b0:MB}{K:List MB}{ks:List Re}{n:Nat} (hn:ks.length=n) :
  retPol pol1 f (mH b0 l uses s K) (.ms (K.length+1+1) 8 n 0 n) (mH b0 l uses s' (K++[.row 8 (ks.map reAV) 0]))=some (.sl false (ks.map reAV),mH b0 l uses s' K):=by
 have hr:getRow (mH b0 l uses s' (K++[.row 8 (ks.map reAV) 0])) (K.length+1+1)=some (8,ks.map reAV,0):=by
  simp[getRow]
 have hz:fz (.ms (K.length+1+1) 8 n 0 n) (mH b0 l uses s' (K++[.row 8 (ks.map reAV) 0]))=some (.sl false (ks.map reAV),mH b0 l uses s' (K++[.row 8 (ks.map reAV) n])):=by
  rw[Ay hr (by rw[List.length_map];exact hn) (AH ks)];unfold mark;rw[hr];simp[Aq]
 have h1:=MT (mH b0 l uses s K).length b0 (.row 5 [mkAV l uses s] 0) (.row 5 [mkAV l uses s'] 0) K [.row 8 (ks.map reAV) n] (by simp[MB.under,AV.underL,AV.under,AE,AG]);unfold retPol;rw[if_neg (by rw[hk];exact Bool.false_ne_true),if_neg (by rw[ho];exact Bool.false_ne_true)];simp only[hz,AV.under,AE _ _ (AH ks),h1,and_self,if_true];simp
abbrev TreeLaw (l:List Int) (uses:Int) (d:Nat):Prop:=∀(s:MS) (b0:MB) (K:List MB),Pre (mA1 d) (mS1 d) s->call Pg pol1 22 [.rf 1 1 0 0,I d] (mH b0 l uses s K)=some (reAV (treeF l uses d s).1,mH b0 l uses (treeF l uses d s).2 K)
abbrev TreeB (l:List Int) (uses:Int) (d:Nat):Prop:=∀ s:MS,Pre (mA1 d) (mS1 d) s->Post (mA1 d) (mS1 d) s (treeF l uses d s).2
theorem BA:∀ d,3<=mA1 d
 | 0=>by simp[mA1]
 | d+1=>by have:=BA d;simp only[mA1];omega
theorem A9:∀ d,1<=mS1 d
 | 0=>by simp[mS1]
 | d+1=>by have:=A9 d;simp only[mS1];omega
theorem Pre.step {A S:Int}{s s':MS}{A' S' x y:Int} (h:Pre A S s) (p:Post x y s s') (ha:A' + x<=A) (hs:S' + y<=S):Pre A' S' s':=by
 obtain⟨h1,h2,h3⟩:=h;obtain⟨p1,p2,p3⟩:=p;exact⟨by omega,by omega,p3⟩
theorem Post.trans {s s' s'':MS}{x y x' y':Int} (p:Post x y s s') (q:Post x' y' s' s''):Post (x+x') (y+y') s s'':=by
 obtain⟨p1,p2,p3⟩:=p;obtain⟨q1,q2,q3⟩:=q;exact⟨by omega,by omega,q3⟩
theorem Post.up {s s':MS}{x y x' y':Int} (p:Post x y s s') (hx:x<=x') (hy:y<=y'):Post x' y' s s':=by
 obtain⟨p1,p2,p3⟩:=p;exact⟨by omega,by omega,p3⟩
theorem Af (l:List Int) (n:Int) (s:MS) (hc:0<=s.caps/\s.caps<=4):Post 1 0 s (nx l n s).2:=⟨by simp only[nx];omega,by simp only[nx];omega,hc⟩
theorem Dl (l:List Int) (s:MS) (hc:0<=s.caps/\s.caps<=4):Post 1 0 s (setM l s).2:=⟨by simp only[setM];omega,by simp only[setM];omega,hc⟩
theorem EU {l:List Int}{uses:Int}{d:Nat} (hb:TreeB l uses d) {s:MS} (hp:Pre (5+3*mA1 d) (3*mS1 d) s):∀ i:Nat,i<=3->Post (i+i*mA1 d) (i*mS1 d) s (stK l (treeF l uses d) s i).2
 | 0,_=>⟨by simp[stK],by simp[stK],by simpa [stK] using hp.c⟩
 | i+1,hi=>by
   have p:=EU hb hp i (by omega);have:=BA d;have:=A9 d;have e1:((i+1:Nat):Int)*mA1 d=i*mA1 d+mA1 d:=by rw[Int.natCast_add,Int.add_mul];simp
   have e2:((i+1:Nat):Int)*mS1 d=i*mS1 d+mS1 d:=by rw[Int.natCast_add,Int.add_mul];simp
   have e3:(i:Int)*mA1 d<=2*mA1 d:=Int.mul_le_mul_of_nonneg_right (by omega) (by omega);have e4:(i:Int)*mS1 d<=2*mS1 d:=Int.mul_le_mul_of_nonneg_right (by omega) (by omega);have q:=p.trans (Af l 2 _ p.c);have r:=hb _ (hp.step q (by omega) (by omega));refine(q.trans r).up (by omega) (by omega)
theorem Gu {l:List Int}{uses:Int}{d:Nat} (hb:TreeB l uses d) {s:MS} (hp:Pre (5+3*mA1 d) (3*mS1 d) s):Post (5+3*mA1 d) (3*mS1 d) s (kidsF l (treeF l uses d) s).2:=by
 have p2:=EU hb hp 2 (by omega);have p3:=EU hb hp 3 (by omega);have:=BA d;have:=A9 d;unfold kidsF;split
 ·exact(p3.trans (Af l 2 _ p3.c)).up (by omega) (by omega)
 ·exact(p2.trans (Af l 2 _ p2.c)).up (by omega) (by omega)
theorem MG (l:List Int) (tr:MS->Re×MS) (s:MS):∀ i,(stK l tr s i).1.length=i
 | 0=>rfl
 | i+1=>by simp[stK,MG l tr s i]
def mW1:Nat->Nat
 | 0=>3
 | d+1=>1+3*mW1 d
theorem MP:∀ d,3<=mW1 d
 | 0=>by simp[mW1]
 | d+1=>by have:=MP d;simp only[mW1];omega
theorem LO (j:Nat):(smallS.getD j []).length<=2:=by
 rw[List.getD_eq_getElem?_getD];cases h:smallS[j]? with
 | none=>simp
 | some x=>
   have hm:=List.mem_of_getElem? h;have:∀ x∈smallS,x.length<=2:=by decide
   exact this x hm
theorem JH (l:List Int) (s:MS):(setM l s).1.wt<=3:=by
 have:=LO ((pickI l s.at_ 15).tdiv 2).toNat;simp only[setM,Re.wt,Re.wtL];omega
theorem KO (l:List Int) (k:Int) (s:MS):(leafF l k s).1.wt<=3:=by
 unfold leafF;split
 ·simp[Re.wt,Re.wtL]
 ·exact JH l s
theorem Re.wtL_append:∀(a b:List Re),Re.wtL (a++b)=Re.wtL a+Re.wtL b
 | [],b=>by simp[Re.wtL]
 | k::ks,b=>by simp[Re.wtL,Re.wtL_append ks b];omega
theorem LG {l:List Int}{tr:MS->Re×MS}{W:Nat} (h:∀ s,(tr s).1.wt<=W) (s:MS):∀ i,Re.wtL (stK l tr s i).1<=i*W
 | 0=>by simp[stK,Re.wtL]
 | i+1=>by
   have h1:=LG (l:=l) h s i;have h2:=h (nx l 2 (stK l tr s i).2).2;simp only[stK,Re.wtL_append,Re.wtL,Nat.add_mul];omega
theorem Ox {l:List Int}{tr:MS->Re×MS}{W:Nat} (h:∀ s,(tr s).1.wt<=W) (s:MS):Re.wtL (kidsF l tr s).1<=3*W:=by
 have h2:=LG (l:=l) h s 2;have h3:=LG (l:=l) h s 3;unfold kidsF;split
 ·exact h3
 ·simp only;omega
theorem ET (l:List Int) (uses:Int):∀(d:Nat) (s:MS),(treeF l uses d s).1.wt<=mW1 d
 | 0,s=>KO l _ _
 | d+1,s=>by
   have h:=ET l uses d;have hp:=MP d;simp only[treeF,mW1];generalize (nx l 20 ⟨s.at_,s.left-1,s.caps⟩).1=k;generalize (nx l 20 ⟨s.at_,s.left-1,s.caps⟩).2=s1;have hk:=Ox (l:=l) h s1;have hl:=KO l k s1;have hs:=JH l s1;generalize treeF l uses d=tr at *;have key:∀(c:Prop) [Decidable c] (x:Re×MS),x.1.wt<=mW1 d->(if c then setM l x.2 else x).1.wt<=mW1 d:=by
    intro c _ x hx;have:=JH l x.2;split
    ·omega
    ·exact hx
   have hr:(repF l uses tr s1).1.wt<=1+3*mW1 d:=by
    unfold repF;simp only[Re.wt,Re.wtL,length_nil];exact Nat.le_trans (Nat.add_le_add_left (Nat.add_le_add_right (key _ _ (h _)) 0) _) (by omega)
   have hc:(capF l tr s1).1.wt<=1+3*mW1 d:=by
    unfold capF;simp only[Re.wt,Re.wtL,length_nil];have:∀ s,(tr s).1.wt<=mW1 d:=h;refine Nat.le_trans (Nat.add_le_add_left (Nat.add_le_add_right (this _) 0) _) (by omega)
   unfold treeStep;repeat' split
   all_goals first|omega|(simp only[Re.wt,Re.wtL,length_nil];first|omega|(have:=h s1;omega)|(have:=h (nx l 2 (nx l 3 s1).2).2;omega)|(have:=h (nx l s1.caps s1).2;have:=h (tr (nx l s1.caps s1).2).2;omega))
end
section
section
variable (k:IntKind) (a b:Int)
theorem A5:evBin .add k a b=some (.int k (k.wrap (a+b))):=rfl
theorem Az:evBin .sub k a b=some (.int k (k.wrap (a-b))):=rfl
theorem A4:evBin .eql k a b=some (.bool (a==b)):=rfl
theorem A0:evBin .neq k a b=some (.bool (a != b)):=rfl
theorem A1:evBin .lss k a b=some (.bool (decide (a<b))):=rfl
theorem A3:evBin .gtr k a b=some (.bool (decide (a > b))):=rfl
end
section
variable {α:Type} (K:List α) (a b c x:α)
theorem ex1:∃ L,K++[a]=K++L:=⟨_,rfl⟩
theorem ex2:∃ L,K++[a]++[b]=K++L:=⟨[a,b],by simp⟩
theorem ex3:∃ L,K++[a]++[b]++[c]=K++L:=⟨[a,b,c],by simp⟩
theorem BT:(K++[a]++[b])[K.length]?=some a:=by simp
theorem BN:(K++[a]++[b])[K.length+1]?=some b:=by simp
theorem BS:(K++[a]++[b]).set K.length x=K++[x]++[b]:=by simp
theorem BR:(K++[a]++[b]).set (K.length+1) x=K++[a]++[x]:=by simp[List.set_append]
theorem QK:(K++[a]++[b]++[c])[K.length]?=some a:=by simp
theorem QJ:(K++[a]++[b]++[c])[K.length+1]?=some b:=by simp[List.getElem?_append]
theorem QI:(K++[a]++[b]++[c])[K.length+1+1]?=some c:=by
 rw[List.getElem?_append_right (by simp)];simp
theorem Ph:(K++[a]++[b]++[c]).set K.length x=K++[x]++[b]++[c]:=by simp
theorem Pf:(K++[a]++[b]++[c]).set (K.length+1) x=K++[a]++[x]++[c]:=by simp[List.set_append]
theorem Pe:(K++[a]++[b]++[c]).set (K.length+1+1) x=K++[a]++[b]++[x]:=by
 rw[List.set_append_right _ _ (by simp)];simp
end
theorem DH {f:Nat} (hk:pol1.keep f=false) (ho:pol1.own f=false) {l:List Int}{uses:Int} (s s':MS) {b0:MB}{K M:List MB} (hM:∃ L,M=K++L) {r r':AV} (hz:∀ H,fz r H=some (r',H)) (hp:AV.plain r' = true) :
  retPol pol1 f (mH b0 l uses s K) r (mH b0 l uses s' M)=some (r',mH b0 l uses s' K):=by
 obtain⟨L,rfl⟩:=hM;exact LT hk ho hz hp
theorem Bi {f:Nat} (hk:pol1.keep f=false) (ho:pol1.own f=false) {l:List Int}{uses:Int} (s s':MS) {b0:MB}{K M:List MB} (hM:∃ L,M=K++L) (a b:Bool) (op:Int) (set:List (Int×Int)) (kids:List Re) (mn mx md n:Int) (neg:Bool) :
  retPol pol1 f (mH b0 l uses s K) (.agg [I op,.sl a (set.map spanAV),.sl b (kids.map reAV),I mn,I mx,I md,I n,.bool neg]) (mH b0 l uses s' M)=some (reAV (.mk op set kids mn mx md n neg),mH b0 l uses s' K):=by
 rw[DH hk ho s s' hM (JZ a b op set kids mn mx md n neg) (by simp[AV.plain,AV.plainL,AF,AH])];rw[show reAV (.mk op set kids mn mx md n neg)=.agg (nodeL op set kids mn mx md n neg) from congrArg AV.agg Aa]
section
variable {l:List Int} (hl:∀ x∈l,In64 x) {uses:Int}{d:Nat} (hd:d<=5) (ht:TreeLaw l uses d) (hb:TreeB l uses d)
include hl hd ht hb
theorem f99 (s:MS) (hp:Pre (5+3*mA1 d) (3*mS1 d) s) (b0:MB) (K:List MB) :
  call Pg pol1 43 [.rf 1 1 0 0,I ((d+1:Nat):Int)] (mH b0 l uses s K)=some (.sl false ((kidsF l (treeF l uses d) s).1.map reAV),mH b0 l uses (kidsF l (treeF l uses d) s).2 K):=by
 have fr:frzArgs pol1 43 0 [.rf 1 1 0 0,I ((d+1:Nat):Int)] (mH b0 l uses s K)=some ([.rf 1 1 0 0,I ((d+1:Nat):Int)],mH b0 l uses s K):=AS _ _ _ rfl;have hA:=BA d;have hS:=A9 d;have hpost:=fun i hi=>EU hb hp i hi;have hmul:∀ i n:Nat,i<=n->(i:Int)*mA1 d<=n*mA1 d/\(i:Int)*mS1 d<=n*mS1 d:=fun i n hi=>⟨Int.mul_le_mul_of_nonneg_right (by omega) (by omega),Int.mul_le_mul_of_nonneg_right (by omega) (by omega)⟩;have hlen:=fun i=>MG l (treeF l uses d) s i;refine AX (pol:=pol1) Tryz.func43 rfl rfl rfl rfl fr ?_;obtain⟨N,hN,hN2,hval⟩:∃ N:Nat,2<=N/\N<=3/\kidsF l (treeF l uses d) s=((stK l (treeF l uses d) s N).1,(nx l 2 (stK l (treeF l uses d) s N).2).2)/\(N=3->(nx l 2 (stK l (treeF l uses d) s 2).2).1=1)/\(N=2->(nx l 2 (stK l (treeF l uses d) s 2).2).1≠1):=by
  unfold kidsF;by_cases h:(nx l 2 (stK l (treeF l uses d) s 2).2).1=1
  ·exact⟨3,by omega,by omega,if_pos h,fun _=>h,fun h=>by omega⟩
  ·exact⟨2,by omega,by omega,if_neg h,fun h=>by omega,fun _=>h⟩
 obtain⟨hval,h3,h2⟩:=hval;rw[hval];simp +contextual (disch:=omega) only[Tryz.f43,dd43,go_sem,simprocAttr,evAppend,map_append,mu43,↓AD,↓AC,↓AB,↓AA];refine AY (M:=(mskOf (pol1.mask 43) (pol1.gc 43) (pol1.acts 43) 0 3)) rfl N (fun i=>(⟨22,[(6,I i),(5,.ms (K.length+1+1) 8 i 0 i),(1,I ((d+1:Nat):Int)),(0,.rf 1 1 0 0)],mH b0 l uses (stK l (treeF l uses d) s i).2 (K++[.row 8 ((stK l (treeF l uses d) s i).1.map reAV) 0])⟩:St)) (fun _=>True) ?_ ?_ trivial _ (by rfl)
 ·intro i hi _;have pi:=hpost i (by omega);have hmi:=hmul i 2 (by omega);have hli:=hlen i;have e:stK l (treeF l uses d) s (i+1)=((stK l (treeF l uses d) s i).1++[(treeF l uses d (nx l 2 (stK l (treeF l uses d) s i).2).2).1],(treeF l uses d (nx l 2 (stK l (treeF l uses d) s i).2).2).2):=rfl;rw[e];have hv2:i=2->(nx l 2 (stK l (treeF l uses d) s i).2).1=1:=fun h=>by subst h;exact h3 (by omega)
  generalize stK l (treeF l uses d) s i=X at *;obtain⟨ks,si⟩:=X;simp only at pi hli hv2 |-;obtain⟨pa,pl,pc⟩:=pi;obtain⟨qa,ql,qc⟩:=hp;have h97:=fun K=>f97 l hl uses 2 (by omega) si ⟨by omega,by omega⟩ b0 K;have hv:=BJ l (n:=2) (by omega) si;have hq:=Af l 2 si pc;generalize nx l 2 si=Y at *;obtain⟨v,sj⟩:=Y;simp only at h97 hv hq hv2 |-;obtain⟨ra,rl,rc⟩:=hq;have h44:=fun K=>ht sj b0 K ⟨by omega,by omega,rc⟩;generalize treeF l uses d sj=Z at *;obtain⟨r,sk⟩:=Z;simp only at h44 |-;have hap:=fun s=>Qt (H:=mH b0 l uses s (K++[.row 8 (ks.map reAV) 0])) (i:=K.length+1+1) (n:=i) (t:=true) (y:=reAV r) (z:=0) (els:=ks.map reAV) (by simp[getRow]) (by rw[List.length_map];exact hli) (by simp[AV.cells,AI,AN]) (Nat.zero_le _) (by omega);simp +contextual (disch:=omega) only[Tryz.f43,dd43,go_sem,simprocAttr,mu43,↓AD,↓AC,↓AB,↓AA,h97,h44,hap,Au,Aq,AI,AN,AJ,Ar,append_nil];rw[map_append];rfl
 ·intro _;have pi:=hpost N (by omega);have hmi:=hmul N 3 (by omega);have hli:=hlen N;have hv2:N=2->(nx l 2 (stK l (treeF l uses d) s N).2).1≠1:=fun h=>by rw[h];exact h2 h
  generalize stK l (treeF l uses d) s N=X at *;obtain⟨ks,si⟩:=X;simp only at pi hli hv2 |-;obtain⟨pa,pl,pc⟩:=pi;obtain⟨qa,ql,qc⟩:=hp;have h97:=fun K=>f97 l hl uses 2 (by omega) si ⟨by omega,by omega⟩ b0 K;have hv:=BJ l (n:=2) (by omega) si;generalize nx l 2 si=Y at *;obtain⟨v,sj⟩:=Y;simp only at h97 hv hv2 |-;have hvn:¬ (N:Int)<2+v:=by omega
  simp +contextual (disch:=omega) only[Tryz.f43,dd43,go_sem,simprocAttr,mu43,↓AD,↓AC,↓AB,↓AA,h97,Au,Aq,AI,AN,AJ,Ar,append_nil];exact OO rfl rfl hli
theorem f100 (s:MS) (hp:Pre (5+3*mA1 d) (3*mS1 d) s) (b0:MB) (K:List MB) :
  call Pg pol1 44 [.rf 1 1 0 0,I ((d+1:Nat):Int)] (mH b0 l uses s K)=some (reAV (repF l uses (treeF l uses d) s).1,mH b0 l uses (repF l uses (treeF l uses d) s).2 K):=by
 have fr:frzArgs pol1 44 0 [.rf 1 1 0 0,I ((d+1:Nat):Int)] (mH b0 l uses s K)=some ([.rf 1 1 0 0,I ((d+1:Nat):Int)],mH b0 l uses s K):=AS _ _ _ rfl;have hA:=BA d;have hS:=A9 d;unfold repF;obtain⟨qa,ql,qc⟩:=hp;have h97a:=fun K=>f97 l hl uses 12 (by omega) s ⟨by omega,by omega⟩ b0 K;have hk:=BJ l (n:=12) (by omega) s;have p1:=Af l 12 s qc;generalize nx l 12 s=Y at *;obtain⟨k,s1⟩:=Y;simp only at h97a hk p1 |-;obtain⟨kn,rfl⟩:∃ kn:Nat,k=kn:=⟨k.toNat,by omega⟩;obtain⟨hm1,hm2⟩:[I 0,I 0,I 0,I 0,I 1,I 1,I 1,I 0,I 2,I 0,I 1,I 2][kn]?=some (I (([0,0,0,0,1,1,1,0,2,0,1,2]:List Int).getD kn 0))/\[I (-1),I (-1),I (-1),I 1,I (-1),I (-1),I 2,I 2,I 2,I 3,I 1,I (-1)][kn]?=some (I (([-1,-1,-1,1,-1,-1,2,2,2,3,1,-1]:List Int).getD kn 0)):=by
  have:kn=0∨kn=1∨kn=2∨kn=3∨kn=4∨kn=5∨kn=6∨kn=7∨kn=8∨kn=9∨kn=10∨kn=11:=by omega
  rcases this with rfl|rfl|rfl|rfl|rfl|rfl|rfl|rfl|rfl|rfl|rfl|rfl<;>exact⟨rfl,rfl⟩
 simp only[Int.toNat_natCast];generalize ([0,0,0,0,1,1,1,0,2,0,1,2]:List Int).getD kn 0=mn at *;generalize ([-1,-1,-1,1,-1,-1,2,2,2,3,1,-1]:List Int).getD kn 0=mx at *;have h97b:=fun K=>f97 l hl uses 2 (by omega) s1 ⟨by have:=p1.a;omega,by have:=p1.a;omega⟩ b0 K;have p2:=p1.trans (Af l 2 s1 p1.c);generalize nx l 2 s1=Y at *;obtain⟨md,s2⟩:=Y;simp only at h97b p2 |-;have h97c:=fun K=>f97 l hl uses 4 (by omega) s2 ⟨by have:=p2.a;omega,by have:=p2.a;omega⟩ b0 K;have p3':=p2.trans (Af l 4 s2 p2.c)
 obtain⟨m,s3,hm,p3,hms⟩:∃ m s3,(if 0<andI uses 8 then(if(nx l 4 s2).1=0 then(2:Int) else md,(nx l 4 s2).2) else(md,s2))=(m,s3)/\Post (1+1+1) (0+0+0) s s3 /\
   ((¬ 0<andI uses 8/\m=md/\s3=s2)∨(0<andI uses 8/\(nx l 4 s2).1=0/\m=2/\s3=(nx l 4 s2).2)∨(0<andI uses 8/\(nx l 4 s2).1≠0/\m=md/\s3=(nx l 4 s2).2)):=by
  by_cases u:0<andI uses 8
  ·rw[if_pos u];by_cases x0:(nx l 4 s2).1=0
   ·rw[if_pos x0];exact⟨_,_,rfl,p3',.inr (.inl ⟨u,x0,rfl,rfl⟩)⟩
   ·rw[if_neg x0];exact⟨_,_,rfl,p3',.inr (.inr ⟨u,x0,rfl,rfl⟩)⟩
  ·rw[if_neg u];exact⟨_,_,rfl,p2.up (by omega) (by omega),.inl ⟨u,rfl,rfl⟩⟩
 rw[hm];clear hm p3';simp only;generalize nx l 4 s2=Y at *;obtain⟨x,s2'⟩:=Y;simp only at h97c hms |-;have hpre:Pre (mA1 d) (mS1 d) s3:=⟨⟨by have:=p3.a;omega,by have:=p3.a;omega⟩,⟨by have:=p3.l;omega,by have:=p3.l;omega⟩,p3.c⟩;have hw6:mW1 d<=1000000:=by
  have:d=0∨d=1∨d=2∨d=3∨d=4∨d=5:=by omega
  rcases this with rfl|rfl|rfl|rfl|rfl|rfl<;>decide
 have h44:=fun K=>ht s3 b0 K hpre;have p4:=hb s3 hpre;have h20:=f20 (treeF l uses d s3).1.wt (treeF l uses d s3).1 (Nat.le_refl _) (Nat.le_trans (ET l uses d s3) hw6);generalize treeF l uses d s3=Y at *;obtain⟨r,s4⟩:=Y;simp only at h44 p4 h20 |-;have h98:=fun K=>f98 l hl uses s4 ⟨by have:=p3.a;have:=p4.a;omega,by have:=p3.a;have:=p4.a;omega⟩ b0 K;obtain⟨X,hX,hXc⟩:∃ X,(if andI uses 32=0/\nullG r=true then setM l s4 else(r,s4))=X/\((andI uses 32≠0/\X=(r,s4))∨(andI uses 32=0/\nullG r=true/\X=setM l s4)∨(andI uses 32=0/\nullG r=false/\X=(r,s4))):=by
  by_cases u:andI uses 32=0
  ·cases hn:nullG r with
   | true=>exact⟨_,if_pos ⟨u,rfl⟩,.inr (.inl ⟨u,rfl,rfl⟩)⟩
   | false=>exact⟨_,if_neg (by simp),.inr (.inr ⟨u,rfl,rfl⟩)⟩
  ·exact⟨_,if_neg (fun h=>u h.1),.inl ⟨u,rfl⟩⟩
 rw[hX];clear hX;generalize setM l s4=Y at *;obtain⟨r5,s5⟩:=Y;simp only at h98;refine AX (pol:=pol1) Tryz.func44 rfl rfl rfl rfl fr ?_;rcases hms with ⟨u8,rfl,rfl⟩|⟨u8,rfl,rfl,rfl⟩|⟨u8,x0,rfl,rfl⟩<;>rcases hXc with ⟨u32,rfl⟩|⟨u32,hn,rfl⟩|⟨u32,hn,rfl⟩
 all_goals try rw[hn]at h20
 all_goals simp +contextual (disch:=omega) only[Tryz.f44,dd44,go_sem,simprocAttr,evAppend,map_append,mu44,↓AD,↓AC,↓AB,↓AA,h97a,h97b,h97c,h44,h20,h98,hm1,hm2,↓A8,Au,Aq,BT,BN,BS,BR,QK,QJ,QI,Ph,Pf,Pe,AI,AN,AJ,Ar,append_nil]
 all_goals repeat' (first|intro _|apply And.intro|(unfold dOk;kernel_rfl)|exact St.beq_refl _|exact AQ|(show altO _ _ _ _=true;kernel_rfl)|(show (_||_)=true;kernel_rfl)|(show (_&&_)=true;kernel_rfl))
 all_goals exact Bi (by rfl) (by rfl) s _ (ex3 ..) true true 4 [] [_] _ _ _ 0 false
theorem f101 (s:MS) (hp:Pre (5+3*mA1 d) (3*mS1 d) s) (b0:MB) (K:List MB) :
  call Pg pol1 45 [.rf 1 1 0 0,I ((d+1:Nat):Int)] (mH b0 l uses s K)=some (reAV (capF l (treeF l uses d) s).1,mH b0 l uses (capF l (treeF l uses d) s).2 K):=by
 have _:=hb;have fr:frzArgs pol1 45 0 [.rf 1 1 0 0,I ((d+1:Nat):Int)] (mH b0 l uses s K)=some ([.rf 1 1 0 0,I ((d+1:Nat):Int)],mH b0 l uses s K):=AS _ _ _ rfl;have hA:=BA d;have hS:=A9 d;unfold capF;obtain⟨qa,ql,qc⟩:=hp;have h97a:=fun K=>f97 l hl uses 9 (by omega) s ⟨by omega,by omega⟩ b0 K;have p1:=Af l 9 s qc;have hmx1:(if s.caps > 1 then s.caps else 1)=max 1 s.caps:=by split<;>omega
 have c1:(nx l 9 s).2.caps=s.caps:=rfl;generalize nx l 9 s=Y at *;obtain⟨x,s1⟩:=Y;simp only at h97a p1 c1 |-
 obtain⟨b,s2,hps,p2,c2,hc⟩:∃(b:Bool) (s2:MS),(if 4<s.caps+1 then(true,s) else if 0<s.caps then(decide (x=0),s1) else(false,s))=(b,s2)/\Post 1 0 s s2/\s2.caps=s.caps /\
   ((4<s.caps+1/\b=true/\s2=s)∨(¬ 4<s.caps+1/\0<s.caps/\x=0/\b=true/\s2=s1)∨(¬ 4<s.caps+1/\0<s.caps/\x≠0/\b=false/\s2=s1)∨(¬ 4<s.caps+1/\¬ 0<s.caps/\b=false/\s2=s)):=by
  have p0:Post 1 0 s s:=⟨by omega,by omega,qc⟩;by_cases h1:4<s.caps+1
  ·rw[if_pos h1];exact⟨_,_,rfl,p0,rfl,.inl ⟨h1,rfl,rfl⟩⟩
  ·rw[if_neg h1];by_cases h2:0<s.caps
   ·rw[if_pos h2];by_cases h3:x=0
    ·exact⟨true,s1,by rw[decide_eq_true h3],p1,c1,.inr (.inl ⟨h1,h2,h3,rfl,rfl⟩)⟩
    ·exact⟨false,s1,by rw[decide_eq_false h3],p1,c1,.inr (.inr (.inl ⟨h1,h2,h3,rfl,rfl⟩))⟩
   ·rw[if_neg h2];exact⟨_,_,rfl,p0,rfl,.inr (.inr (.inr ⟨h1,h2,rfl,rfl⟩))⟩
 rw[hps];clear hps;simp only;have hm1:0<max 1 s2.caps:=by omega
 have h97b:=fun K=>f97 l hl uses (max 1 s2.caps) (by omega) s2 ⟨by have:=p2.a;omega,by have:=p2.a;omega⟩ b0 K;have p3:=p2.trans (Af l (max 1 s2.caps) s2 p2.c);have hv:=BJ l hm1 s2;have c3:(nx l (max 1 s2.caps) s2).2.caps=s2.caps:=rfl;generalize hY:nx l (max 1 s2.caps) s2=Y at *;obtain⟨y,s3⟩:=Y;clear hY;simp only at h97b p3 hv c3 |-;rw[c2]at h97b hv c3;obtain⟨m,s4,hms,p4,c4,hmb,hc2⟩:∃(m:Int) (s4:MS),(if b=true then(1+y,s3) else(s.caps+1,s2))=(m,s4)/\Post 2 0 s s4/\s4.caps=s.caps/\(0<=m/\m<=4)/\((b=true/\m=1+y/\s4=s3)∨(b=false/\m=s.caps+1/\s4=s2)):=by
  cases b with
  | true=>exact⟨_,_,if_pos rfl,p3,c3,by omega,.inl ⟨rfl,rfl,rfl⟩⟩
  | false=>
    refine⟨_,_,if_neg Bool.false_ne_true,p2.up (by omega) (by omega),c2,?_,.inr ⟨rfl,rfl,rfl⟩⟩;rcases hc with h|h|h|h<;>first|omega|(simp at h;done)|(simp at h;omega)
 rw[hms];clear hms;simp only;have hmx2:(if m > s.caps then m else s.caps)=max s.caps m:=by split<;>omega
 have hpre:Pre (mA1 d) (mS1 d) ⟨s4.at_,s4.left,max s.caps m⟩:=⟨⟨by have:=p4.a;simp only;omega,by have:=p4.a;simp only;omega⟩,⟨by have:=p4.l;simp only;omega,by have:=p4.l;simp only;omega⟩,by simp only;omega⟩;have h44:=fun K=>ht _ b0 K hpre;rw[c4];generalize treeF l uses d ⟨s4.at_,s4.left,max s.caps m⟩=Y at *;obtain⟨r,s5⟩:=Y;simp only at h44 |-;have fin:∀(M:List MB),(∃ L,M=K++L)->retPol pol1 45 (mH b0 l uses s K) (.agg [I 5,.sl true [],.sl true [reAV r],I 0,I 0,I 0,I m,.bool false]) (mH b0 l uses s5 M)=some (reAV (.mk 5 [] [r] 0 0 0 m false),mH b0 l uses s5 K):=fun M hM=>
  Bi (by rfl) (by rfl) s s5 hM true true 5 [] [r] 0 0 0 m false
 refine AX (pol:=pol1) Tryz.func45 rfl rfl rfl rfl fr ?_;rcases hc with ⟨g1,rfl,rfl⟩|⟨g1,g2,g3,rfl,rfl⟩|⟨g1,g2,g3,rfl,rfl⟩|⟨g1,g2,rfl,rfl⟩<;>rcases hc2 with ⟨g4,rfl,rfl⟩|⟨g4,rfl,rfl⟩<;>(try cases g4)
 ·rw[show max 1 s2.caps=s2.caps by omega]at h97b;simp +contextual (disch:=omega) only[Tryz.f45,dd45,go_sem,simprocAttr,evAppend,map_append,mu45,↓AD,↓AC,↓AB,↓AA,h97a,h97b,h44,hmx1,hmx2,c1,c2,c3,evMax,Au,Aq,AI,AN,AJ,Ar,append_nil];repeat' (first|intro _|apply And.intro|(unfold dOk;kernel_rfl)|exact St.beq_refl _|exact AQ|(show altO _ _ _ _=true;kernel_rfl)|(show (_||_)=true;kernel_rfl)|(show (_&&_)=true;kernel_rfl))
  exact fin _ (ex1 ..)
 ·simp +contextual (disch:=omega) only[Tryz.f45,dd45,go_sem,simprocAttr,evAppend,map_append,mu45,↓AD,↓AC,↓AB,↓AA,h97a,h97b,h44,hmx1,hmx2,c1,c2,c3,evMax,Au,Aq,AI,AN,AJ,Ar,append_nil];repeat' (first|intro _|apply And.intro|(unfold dOk;kernel_rfl)|exact St.beq_refl _|exact AQ|(show altO _ _ _ _=true;kernel_rfl)|(show (_||_)=true;kernel_rfl)|(show (_&&_)=true;kernel_rfl))
  exact fin _ (ex1 ..)
 ·first|rw[show max s.caps (s.caps+1)=s.caps+1 by omega]at h44|rw[show max s2.caps (s2.caps+1)=s2.caps+1 by omega]at h44|rw[show max s4.caps (s4.caps+1)=s4.caps+1 by omega]at h44
  simp +contextual (disch:=omega) only[Tryz.f45,dd45,go_sem,simprocAttr,evAppend,map_append,mu45,↓AD,↓AC,↓AB,↓AA,h97a,h97b,h44,hmx1,hmx2,c1,c2,c3,evMax,Au,Aq,AI,AN,AJ,Ar,append_nil];repeat' (first|intro _|apply And.intro|(unfold dOk;kernel_rfl)|exact St.beq_refl _|exact AQ|(show altO _ _ _ _=true;kernel_rfl)|(show (_||_)=true;kernel_rfl)|(show (_&&_)=true;kernel_rfl))
  exact fin _ (ex1 ..)
 ·first|rw[show max s.caps (s.caps+1)=s.caps+1 by omega]at h44|rw[show max s2.caps (s2.caps+1)=s2.caps+1 by omega]at h44|rw[show max s4.caps (s4.caps+1)=s4.caps+1 by omega]at h44
  simp +contextual (disch:=omega) only[Tryz.f45,dd45,go_sem,simprocAttr,evAppend,map_append,mu45,↓AD,↓AC,↓AB,↓AA,h97a,h97b,h44,hmx1,hmx2,c1,c2,c3,evMax,Au,Aq,AI,AN,AJ,Ar,append_nil];repeat' (first|intro _|apply And.intro|(unfold dOk;kernel_rfl)|exact St.beq_refl _|exact AQ|(show altO _ _ _ _=true;kernel_rfl)|(show (_||_)=true;kernel_rfl)|(show (_&&_)=true;kernel_rfl))
  exact fin _ (ex1 ..)
end
end
end Go.Ev
