/- What functions of the program compute; no further conditions. -/
import Derived.Test.YtkolcijbdendhaaGreatF24
set_option linter.unusedVariables false
set_option linter.unusedSimpArgs false
open List (append_assoc cons_append getElem?_append_left getElem?_eq_getElem getElem?_of_mem getElem?_set_ne getElem?_set_self length_append map_cons map_take mem_append mem_map mem_of_getElem? mem_singleton nil_append take_of_length_le)
open Nat (le_refl lt_or_ge sub_self zero_add zero_le)
open Go.Proofs Go.RowKit Go.IntWalk
set_option maxHeartbeats 4000000
set_option maxRecDepth 100000
namespace Go.Ev
attribute [local go_sem] Ax A8 bndO bnd evEq eqCells not_false_eq_true not_true_eq_false toList_some Array.size_empty length_append List.map_append tySzE List.head?_drop Nat.mul_one Aj Aq Ag Ak Al Ae
section
abbrev U (n:Int):AV:=.int .u64 n
abbrev wAV (w:List Int):AV:=.agg (w.map U)
theorem PY:∀ {a b:List Int},AV.beqL (a.map U) (b.map U)=true↔a=b
 | [],[]=>by simp[AV.beqL]
 | [],_::_=>by simp[AV.beqL]
 | _::_,[]=>by simp[AV.beqL]
 | x::a,y::b=>by
   have:=@PY a b;simp[AV.beqL,AV.beq,this]
theorem GP {a b:List Int}:AV.beq (wAV a) (wAV b)=true↔a=b:=PY
def ent:Nat->List (List Int)->List (AV×AV)
 | _,[]=>[]
 | i,w::ws=>(wAV w,I i)::ent (i+1) ws
theorem Kr {w:List Int}:∀ {ws:List (List Int)}{i n:Nat},ws[n]?=some w->(∀ m,ws[m]?=some w->m=n)->findMp (wAV w) (ent i ws)=some (I ((i+n:Nat):Int))
 | [],i,n,h,_=>by simp at h
 | v::ws,i,n,h,hu=>by
   simp only[ent,findMp];by_cases e:v=w
   ·rw[if_pos (GP.2 e)];have:=hu 0 (by simp[e]);subst this;rfl
   ·rw[if_neg (fun h2=>e (GP.1 h2))];cases n with
    | zero=>simp at h;exact absurd h e
    | succ n=>
      rw[Kr (ws:=ws) (i:=i+1) (n:=n) (by simpa using h) (fun m hm=>by have:=hu (m+1) (by simpa using hm);omega)];congr 3;omega
theorem FO {w:List Int}:∀ {ws:List (List Int)}{i:Nat},w ∉ ws->findMp (wAV w) (ent i ws)=none
 | [],i,_=>rfl
 | v::ws,i,h=>by
   simp only[ent,findMp];rw[if_neg (fun h2=>h (by rw[GP.1 h2];simp))];exact FO fun h2=>h (by simp[h2])
theorem JQ {w:List Int}:∀ {ws:List (List Int)}{i:Nat},w ∉ ws->updMp (wAV w) (I ((i+ws.length:Nat):Int)) (ent i ws)=ent i (ws++[w])
 | [],i,_=>by simp[ent,updMp]
 | v::ws,i,h=>by
   simp only[ent,updMp,cons_append];rw[if_neg (fun h2=>h (by rw[GP.1 h2];simp))];have:=JQ (w:=w) (ws:=ws) (i:=i+1) fun h2=>h (by simp[h2]);rw[<- this];congr 4;simp;omega
theorem JG (k:IntKind):∀(w:List Int) (n:Nat),w.length=n->cellsOk (List.replicate n (some k)) (w.map (AV.int k))=true
 | [],n,h=>by simp at h;subst h;rfl
 | x::w,n,h=>by
   simp at h;subst h;rw[List.replicate_succ,map_cons];simp only[cellsOk,decide_true,Bool.true_and];exact JG k w _ rfl
theorem Q2 {w:List Int} (h:w.length=16):cellsOk [some .u64,some .u64,some .u64,some .u64,some .u64,some .u64,some .u64,some .u64,some .u64,some .u64,some .u64,some .u64,some .u64,some .u64,some .u64,some .u64] (w.map U)=true:=JG .u64 w 16 h
def clsAV (ids:List Nat) (cls:List Spans):List AV:=List.zipWith (fun id c=>AV.ms id 2 c.length 0 c.length) ids cls
theorem CL {ids:List Nat}{cls:List Spans} (h:ids.length=cls.length):(clsAV ids cls).length=cls.length:=by simp[clsAV,h]
theorem K6 {ids:List Nat}{cls:List Spans}{n id:Nat}{c:Spans} (h1:ids[n]?=some id) (h2:cls[n]?=some c):(clsAV ids cls)[n]?=some (.ms id 2 c.length 0 c.length):=by
 simp[clsAV,List.getElem?_zipWith,h1,h2]
theorem Nt {ids:List Nat}{cls:List Spans}{n id:Nat} (h1:ids[n]?=some id) (c:Spans):(clsAV ids cls).set n (.ms id 2 c.length 0 c.length)=clsAV ids (cls.set n c):=by
 refine List.ext_getElem? fun i=>?_;unfold clsAV;rw[List.getElem?_set,List.getElem?_zipWith,List.getElem?_zipWith,List.getElem?_set,List.length_zipWith];by_cases e:n=i
 ·subst e;have hlt:=(List.getElem?_eq_some_iff.1 h1).1;rw[if_pos rfl,if_pos rfl,h1];by_cases h:n<cls.length
  ·rw[if_pos (by omega),if_pos h]
  ·rw[if_neg (by omega),if_neg h]
 ·rw[if_neg e,if_neg e]
theorem L9 {ids:List Nat}{cls:List Spans} (h:ids.length=cls.length) (id:Nat) (c:Spans):clsAV (ids++[id]) (cls++[c])=clsAV ids cls++[.ms id 2 c.length 0 c.length]:=by
 unfold clsAV;rw[List.zipWith_append h];rfl
theorem Kd {H:List MB}{id n i k z:Nat}{els:List AV} (h:getRow H i=some (k,els,z)):∃ z',getRow (mark H id n) i=some (k,els,z'):=by
 unfold mark;cases hr:getRow H id with
 | none=>exact⟨z,h⟩
 | some x=>
   obtain⟨k',els',z0⟩:=x;simp only;have hi:=BF h;have hid:=BF hr;unfold getRow;by_cases e:id=i
   ·subst e;rw[h]at hr;cases hr;rw[getElem?_set_self (List.getElem?_eq_some_iff.1 hid).1];exact⟨_,rfl⟩
   ·rw[getElem?_set_ne e,hi];exact⟨z,rfl⟩
theorem Mi (k:Nat):∀(ids:List Nat) (cls:List Spans) (H:List MB),ids.length=cls.length->(∀(n id:Nat) (c:Spans),ids[n]?=some id->cls[n]?=some c->∃ z,getRow H id=some (2,c.map spanAV,z)) ->
  ∃ H',fzL (fzJ (k+1)) (clsAV ids cls) H=some (cls.map setAV,H')
 | [],[],H,_,_=>⟨H,rfl⟩
 | [],_::_,H,h,_=>by simp at h
 | _::_,[],H,h,_=>by simp at h
 | id::ids,c::cls,H,h,hr=>by
   obtain⟨z,h0⟩:=hr 0 id c rfl rfl;have h1:=Jo (n:=k) h0 (List.length_map _) (AF c);obtain⟨H',h2⟩:=Mi k ids cls (mark H id c.length) (by simpa using h) (fun n id' c' a b=>by
    obtain⟨z',h3⟩:=hr (n+1) id' c' (by simpa using a) (by simpa using b);exact Kd h3)
   refine⟨H',?_⟩;show fzL (fzJ (k+1)) (.ms id 2 c.length 0 c.length::clsAV ids cls) H=_;simp only[fzL,h1,h2];rfl
structure ClsOk (H:List MB) (ids:List Nat) (cls:List Spans):Prop where
 len:ids.length=cls.length
 out:H[2]?=some (.row 1 (clsAV ids cls) 0)
 rows:∀(n id:Nat) (c:Spans),ids[n]?=some id->cls[n]?=some c->H[id]?=some (.row 2 (c.map spanAV) 0)
 nodup:ids.Nodup
 high:∀ id∈ids,3<=id
theorem ClsOk.fz {H:List MB}{ids:List Nat}{cls:List Spans} (h:ClsOk H ids cls) {n:Nat} (hn:cls.length=n):∃ H',fz (.tup [.ms 2 1 n 0 n,I 0]) H=some (.tup [.sl false (cls.map setAV),I 0],H'):=by
 subst hn;have h0:getRow H 2=some (1,clsAV ids cls,0):=by unfold getRow;rw[h.out]
 obtain⟨H',h1⟩:=Mi 4 ids cls (mark H 2 (0+cls.length)) h.len (fun n id c a b=>Kd (z:=0) (by unfold getRow;rw[h.rows n id c a b]));have hl:=CL h.len;refine⟨H',?_⟩;unfold Ev.fz;rw[GL];have h2:fzA (fzJ 6) (.ms 2 1 cls.length 0 cls.length) H=some (.sl false (cls.map setAV),H'):=
  Jp h0 hl (by omega) (by rw[List.drop_zero,take_of_length_le (by omega)];exact h1)
 simp only[fzL,h2];rfl
theorem ClsOk.put {H:List MB}{ids:List Nat}{cls:List Spans} (h:ClsOk H ids cls) {i:Nat} (hi:i<2) (x:MB):ClsOk (H.set i x) ids cls:=
 ⟨h.len,by rw[getElem?_set_ne (by omega)];exact h.out,fun n id c a b=>by
   have:=h.high id (mem_of_getElem? a);rw[getElem?_set_ne (by omega)];exact h.rows n id c a b,h.nodup,h.high⟩
theorem Lz (x r:Int) (n:Nat) (h:r=2 ^ n):evBin .xor .u64 x r=some (U (xorW x n)):=by subst h;rfl
theorem Bn {k:IntKind}{a b:Int}:evBin .sub k a b=some (.int k (k.wrap (a-b))):=rfl
theorem Bo {k:IntKind}{a b:Int}:evBin .add k a b=some (.int k (k.wrap (a+b))):=rfl
theorem Bc {k:IntKind}{a b:Int}:evBin .gtr k a b=some (.bool (decide (a > b))):=rfl
theorem Bd {k:IntKind}{a b:Int}:evBin .eql k a b=some (.bool (a==b)):=rfl
theorem Kx (n:Nat) (h:n<=1000000):evBin .quo .i64 (n:Int) 64=some (I ((n / 64:Nat):Int)):=by
 have:IntKind.i64.wrap ((n:Int).tdiv 64)=((n / 64:Nat):Int):=by
  have e:(n:Int).tdiv 64=((n / 64:Nat):Int):=rfl;rw[e,i64_in];omega
 show (if(64:Int)=0 then none else some (I (IntKind.i64.wrap ((n:Int).tdiv 64))))=_;rw[if_neg (by decide),this]
theorem Kw (n:Nat):evBin .rem .i64 (n:Int) 64=some (I ((n % 64:Nat):Int)):=by
 have:(n:Int).tmod 64=((n % 64:Nat):Int):=rfl;show (if(64:Int)=0 then none else some (I ((n:Int).tmod 64)))=_;rw[if_neg (by decide),this]
theorem Pu (n:Nat) (h:n<64):evShift .shl .u64 1 (n:Int)=some (U ((2:Int) ^ n)):=by
 have h1:min (n:Int).toNat IntKind.u64.bits=n:=by show min (n:Int).toNat 64=n;omega
 have h2:(2:Nat) ^ n<2 ^ 64:=Nat.pow_lt_pow_right (by omega) h;have h3:((2 ^ n:Nat):Int)<18446744073709551616:=by
  have h6:(2:Nat) ^ 64=18446744073709551616:=by decide
  rw[h6]at h2;omega
 rw[Int.natCast_pow]at h3;have h4:(0:Int)<=2 ^ n:=Int.pow_nonneg (by omega);have h5:IntKind.u64.wrap (2 ^ n)=2 ^ n:=Int.emod_eq_of_lt h4 h3;show (if(n:Int)<0 then none else some (U (IntKind.u64.wrap (1*2 ^ (min (n:Int).toNat IntKind.u64.bits)))))=_;rw[if_neg (by omega),h1,Int.one_mul,h5]
section split
variable (L:List Spans) (top:Int) (S:List (Int×Int)) (E:List Int)
structure XS where
 k:Nat
 j:Nat
 w:List Int
 ws:List (List Int)
 ids:List Nat
 H:List MB
def KK16:KK:=.flat 90 [some .u64,some .u64,some .u64,some .u64,some .u64,some .u64,some .u64,some .u64,some .u64,some .u64,some .u64,some .u64,some .u64,some .u64,some .u64,some .u64]
structure XI (k j:Nat) (w:List Int) (ws:List (List Int)) (ids:List Nat) (H:List MB):Prop where
 k_le:k<=E.length
 j_le:j<=S.length
 wr:WR w (par (S.take j))
 b0:H[0]?=some (.row 16 [wAV w] 0)
 b1:H[1]?=some (.mp KK16 (ent 0 ws))
 keys:ws.length=(firsts (colK L E top) k).length
 key:∀(n:Nat) (c:List Bool),(firsts (colK L E top) k)[n]?=some c->∃ w,ws[n]?=some w/\WR w fun s=>c.getD s false
 cls:ClsOk H ids (classesA (colK L E top) (pieceA E top) k)
 few:¬ tooBig (colK L E top) (pieceA E top) k
end split
theorem WR.len {w:List Int}{b:Nat->Bool} (h:WR w b):w.length=16:=h.1
theorem HY (L:List Spans) (E:List Int) (top:Int) (k:Nat):(colK L E top k).length=L.length:=by simp[colK,colA]
theorem Cu {L:List Spans}{E:List Int}{top:Int}{k:Nat}{c:List Bool} (h:c∈firsts (colK L E top) k):c.length=L.length:=by
 obtain⟨i,_,rfl⟩:=Bm.1 h;exact HY L E top i
theorem PU {c d:List Bool} (h:c.length=d.length) (hl:c.length<=1024) (he:∀ s,s<1024->c.getD s false=d.getD s false):c=d:=by
 refine List.ext_getElem? fun i=>?_;rcases lt_or_ge i c.length with h1|h1
 ·have:=he i (by omega);simp only[List.getD_eq_getElem?_getD]at this;rw[getElem?_eq_getElem h1,getElem?_eq_getElem (by omega)]at this |-
  simpa using this
 ·rw[List.getElem?_eq_none h1,List.getElem?_eq_none (by omega)]
theorem OT {w:List Int}{i:Nat} (h:i<w.length) (y:Int):List.take i (w.map U)++U y::List.drop (i+1) (w.map U)=(w.set i y).map U:=by
 rw[List.map_set,List.set_eq_take_append_cons_drop,if_pos (by simpa using h)]
theorem XI.tog {L:List Spans}{top:Int}{S:List (Int×Int)}{E:List Int}{k j s:Nat}{w:List Int}{ws:List (List Int)}{ids:List Nat}{H:List MB} (h:XI L top S E k j w ws ids H) {e:Int×Int} (he:S[j]?=some e) (hes:e.2=(s:Int)) (hs:s<1024) {x:Int} (hx:w[s / 64]?=some x) :
  XI L top S E k (j+1) (w.set (s / 64) (xorW x (s % 64))) ws ids (H.set 0 (.row 16 [wAV (w.set (s / 64) (xorW x (s % 64)))] 0)):=by
 have h1:=h.wr.tog hs hx;have h2:par (S.take (j+1))=fun i=>if i=s then !par (S.take j) i else par (S.take j) i:=by
  obtain⟨a,b⟩:=e;simp only at hes;rw[List.take_add_one,he,hes];exact Oi _ _ _
 have h0:=(List.getElem?_eq_some_iff.1 h.b0).1;exact⟨h.k_le,(List.getElem?_eq_some_iff.1 he).1,by rw[h2];exact h1,getElem?_set_self h0,by rw[getElem?_set_ne (by omega)];exact h.b1,h.keys,h.key,h.cls.put (by omega) _,h.few⟩
structure Upd (H H1:List MB) (id:Nat) (r:MB):Prop where
 at_:H1[id]?=some r
 len:H.length<=H1.length
 same:∀ i,i≠id->i<H.length->H1[i]?=H[i]?
theorem RO {H:List MB}{id n:Nat}{O:Spans}{p:Int×Int} (hr:H[id]?=some (.row 2 (O.map spanAV) 0)) (hn:O.length=n) (h0:0<n) (hl:n<=1000000) (hO:∀ q∈O,q.2<=1114111) (hp:0<=p.1/\p.1<=p.2/\p.2<=1114111) (hq:∀ q∈O,0<=q.2) :
  ∃ H1,call Pg pol1 51 [.ms id 2 n 0 n,.agg [I p.1,I p.2]] H=some (.ms id 2 (addI O p).length 0 (addI O p).length,H1)/\Upd H H1 id (.row 2 ((addI O p).map spanAV) 0):=by
 have hlt:=(List.getElem?_eq_some_iff.1 hr).1;refine⟨_,sf68 hr hn h0 (by omega) hO hp hq,?_,by simp,fun i hi h=>?_⟩
 ·rw[getElem?_append_left (by rw[List.length_set];exact hlt),getElem?_set_self hlt]
 ·rw[getElem?_append_left (by rw[List.length_set];exact h),getElem?_set_ne (Ne.symm hi)]
theorem OU (H:List MB) (p:Int×Int):∃ H1,call Pg pol1 51 [.sl true [],.agg [I p.1,I p.2]] H=some (.ms (H.length+1) 2 1 0 1,H1)/\Upd H H1 (H.length+1) (.row 2 ([p].map spanAV) 0):=by
 refine⟨_,SK H p,?_,by simp,fun i hi h=>?_⟩
 ·rw[append_assoc,List.getElem?_append_right (by omega)];simp
 ·rw[append_assoc,getElem?_append_left h]
theorem ClsOk.upd {H H1:List MB}{ids:List Nat}{cls:List Spans} (h:ClsOk H ids cls) {n id:Nat}{c:Spans} (hn:ids[n]?=some id) (hu:Upd H H1 id (.row 2 (c.map spanAV) 0)) :
  ClsOk (H1.set 2 (.row 1 ((clsAV ids cls).set n (.ms id 2 c.length 0 c.length)) 0)) ids (cls.set n c):=by
 have hid:=h.high id (mem_of_getElem? hn);have h2:=(List.getElem?_eq_some_iff.1 h.out).1;have hl:=hu.len;refine⟨by rw[List.length_set];exact h.len,?_,fun m id' c' a b=>?_,h.nodup,h.high⟩
 ·rw[getElem?_set_self (by omega),Nt hn]
 ·have hid':=h.high id' (mem_of_getElem? a);rw[getElem?_set_ne (by omega)];rw[List.getElem?_set]at b;by_cases e:n=m
  ·subst e;rw[hn]at a;obtain rfl:=Option.some.inj a;rw[if_pos rfl]at b;split at b
   ·rw[<- Option.some.inj b];exact hu.at_
   ·cases b
  ·rw[if_neg e]at b;have hne:id'≠id:=fun e2=>by
    obtain⟨l1,q1⟩:=List.getElem?_eq_some_iff.1 hn;obtain⟨l2,q2⟩:=List.getElem?_eq_some_iff.1 a;have hnd:=List.pairwise_iff_getElem.1 h.nodup;rcases Nat.lt_or_gt_of_ne e with h4|h4
    ·exact hnd n m l1 l2 h4 (q1.trans (e2.symm.trans q2.symm))
    ·exact hnd m n l2 l1 h4 (q2.trans (e2.trans q1.symm))
   have hr:=h.rows m id' c' a b;rw[hu.same id' hne (List.getElem?_eq_some_iff.1 hr).1];exact hr
theorem ClsOk.new {H Hb Hc:List MB}{ids:List Nat}{cls:List Spans} (h:ClsOk H ids cls) {x y:MB}{p:Int×Int} (hb:Hb=(H.set 1 x).set 2 y) (hu:Upd Hb Hc (Hb.length+1) (.row 2 ([p].map spanAV) 0)) :
  ClsOk (Hc.set 2 (.row 1 ((clsAV ids cls++[AV.sl true []]).set cls.length (.ms (Hb.length+1) 2 1 0 1)) 0)) (ids++[Hb.length+1]) (cls++[[p]]):=by
 have hbl:Hb.length=H.length:=by rw[hb];simp
 have h2:=(List.getElem?_eq_some_iff.1 h.out).1;have hl:=hu.len;have hids:∀ id∈ids,id<H.length:=fun id hid=>by
  obtain⟨n,hn⟩:=getElem?_of_mem hid;have h3:=(List.getElem?_eq_some_iff.1 hn).1;obtain⟨c,hc⟩:∃ c,cls[n]?=some c:=⟨_,getElem?_eq_getElem (by rw[<- h.len];exact h3)⟩;exact(List.getElem?_eq_some_iff.1 (h.rows n id c hn hc)).1
 refine⟨by simp[h.len],?_,fun m id c a b=>?_,?_,?_⟩
 ·rw[getElem?_set_self (by omega),L9 h.len];congr 2;rw[List.set_append_right _ _ (by rw[CL h.len];exact le_refl _),CL h.len];simp
 ·rcases lt_or_ge m ids.length with h3|h3
  ·rw[getElem?_append_left h3]at a;rw[getElem?_append_left (by rw[<- h.len];exact h3)]at b;have hid:=h.high id (mem_of_getElem? a);have hr:=h.rows m id c a b;have hlt:=hids id (mem_of_getElem? a);rw[getElem?_set_ne (by omega),hu.same id (by omega) (by omega),hb,getElem?_set_ne (by omega),getElem?_set_ne (by omega)];exact hr
  ·have hm:m=ids.length:=by
    have:=(List.getElem?_eq_some_iff.1 a).1;simp at this;omega
   subst hm;rw[List.getElem?_append_right (le_refl _),sub_self]at a;rw[h.len,List.getElem?_append_right (le_refl _),sub_self]at b;simp at a b;rw[<- a,<- b,getElem?_set_ne (by omega)];exact hu.at_
 ·exact List.nodup_append.2 ⟨h.nodup,by simp,fun a ha b hb2 e=>by
   have:=hids a ha;rw[mem_singleton.1 hb2]at e;omega⟩
 ·intro id hid;rcases mem_append.1 hid with h3|h3
  ·exact h.high id h3
  ·rw[mem_singleton.1 h3];omega
section rounds
variable {L:List Spans}{top:Int}{S:List (Int×Int)}{E:List Int}{k j:Nat}{w:List Int}{ws:List (List Int)}{ids:List Nat}{H:List MB}
theorem XI.old (h:XI L top S E k j w ws ids H) (hk:k<E.length) {n id:Nat} (hn:(firsts (colK L E top) k)[n]?=some (colK L E top k)) (hid:ids[n]?=some id) {H1:List MB}
  (hu:Upd H H1 id (.row 2 ((addI (clsOf (colK L E top) (pieceA E top) (colK L E top k) k) (pieceA E top k)).map spanAV) 0)) (h64:¬ 64<(addI (clsOf (colK L E top) (pieceA E top) (colK L E top k) k) (pieceA E top k)).length) :
  XI L top S E (k+1) j w ws ids (H1.set 2 (.row 1 ((clsAV ids (classesA (colK L E top) (pieceA E top) k)).set n (.ms id 2 (addI (clsOf (colK L E top) (pieceA E top) (colK L E top k) k) (pieceA E top k)).length 0 (addI (clsOf (colK L E top) (pieceA E top) (colK L E top k) k) (pieceA E top k)).length)) 0)):=by
 obtain⟨e1,e2,e3⟩:=Dn (pc:=pieceA E top) hn;have hid3:=h.cls.high id (mem_of_getElem? hid);have h0:=(List.getElem?_eq_some_iff.1 h.b0).1;have h1:=(List.getElem?_eq_some_iff.1 h.b1).1;refine⟨hk,h.j_le,h.wr,?_,?_,by rw[e1];exact h.keys,by rw[e1];exact h.key,by rw[e2];exact h.cls.upd hid hu,?_⟩
 ·rw[getElem?_set_ne (by omega),hu.same 0 (by omega) h0];exact h.b0
 ·rw[getElem?_set_ne (by omega),hu.same 1 (by omega) h1];exact h.b1
 ·rintro(h2|⟨c,hc,h2⟩)
  ·rw[e1]at h2;exact h.few (.inl h2)
  ·rw[e1]at hc;simp only[clsOf]at h2;split at h2
   ·rename_i e;subst e;exact h64 h2
   ·exact h.few (.inr ⟨c,hc,h2⟩)
theorem XI.new (h:XI L top S E k j w ws ids H) (hk:k<E.length) (hn:colK L E top k ∉ firsts (colK L E top) k) (hWk:WR w fun s=>(colK L E top k).getD s false) {Hb Hc:List MB}{y:MB}
  (hb:Hb=(H.set 1 (.mp KK16 (ent 0 (ws++[w])))).set 2 y) (hu:Upd Hb Hc (Hb.length+1) (.row 2 ([pieceA E top k].map spanAV) 0)) (hm:¬ 1024<(firsts (colK L E top) k).length+1) :
  XI L top S E (k+1) j w (ws++[w]) (ids++[Hb.length+1]) (Hc.set 2 (.row 1 ((clsAV ids (classesA (colK L E top) (pieceA E top) k)++[AV.sl true []]).set (firsts (colK L E top) k).length (.ms (Hb.length+1) 2 1 0 1)) 0)):=by
 obtain⟨e1,e2⟩:=Do (pc:=pieceA E top) hn;have h0:=(List.getElem?_eq_some_iff.1 h.b0).1;have h1:=(List.getElem?_eq_some_iff.1 h.b1).1;have hbl:Hb.length=H.length:=by rw[hb];simp
 refine⟨hk,h.j_le,h.wr,?_,?_,by rw[e1];simp[h.keys],fun n c hc=>?_,?_,?_⟩
 ·rw[getElem?_set_ne (by omega),hu.same 0 (by omega) (by omega),hb,getElem?_set_ne (by omega),getElem?_set_ne (by omega)];exact h.b0
 ·rw[getElem?_set_ne (by omega),hu.same 1 (by omega) (by omega),hb,getElem?_set_ne (by omega),getElem?_set_self h1]
 ·rw[e1]at hc;rcases lt_or_ge n (firsts (colK L E top) k).length with h3|h3
  ·rw[getElem?_append_left h3]at hc;obtain⟨v,h4,h5⟩:=h.key n c hc;exact⟨v,by rw[getElem?_append_left (by rw[h.keys];exact h3)];exact h4,h5⟩
  ·have hm:n=(firsts (colK L E top) k).length:=by
    have:=(List.getElem?_eq_some_iff.1 hc).1;simp at this;omega
   subst hm;rw[List.getElem?_append_right (le_refl _),sub_self]at hc;simp at hc;subst hc;exact⟨w,by rw[<- h.keys];simp,hWk⟩
 ·rw[e2];have:=h.cls.new hb hu;rw[BQ]at this;exact this
 ·rintro(h2|⟨c,hc,h2⟩)
  ·rw[e1,length_append]at h2;exact hm h2
  ·simp only[clsOf]at h2;split at h2
   ·rename_i e;rw[<- e,JF hn,DJ]at h2;simp at h2
   ·rename_i e;rw[e1]at hc;rcases mem_append.1 hc with h3|h3
    ·exact h.few (.inr ⟨c,h3,h2⟩)
    ·exact e (mem_singleton.1 h3).symm
theorem XI.find (h:XI L top S E k j w ws ids H) (hl:L.length<=1024) (hWk:WR w fun s=>(colK L E top k).getD s false) {n:Nat} (hn:(firsts (colK L E top) k)[n]?=some (colK L E top k)):findMp (wAV w) (ent 0 ws)=some (I n):=by
 obtain⟨v,h1,h2⟩:=h.key n _ hn;have hv:v=w:=h2.uniq hWk fun j _=>rfl;subst hv;rw[Kr h1,zero_add];intro m hm;have hml:m<(firsts (colK L E top) k).length:=by rw[<- h.keys];exact(List.getElem?_eq_some_iff.1 hm).1
 obtain⟨c,hc⟩:∃ c,(firsts (colK L E top) k)[m]?=some c:=⟨_,getElem?_eq_getElem hml⟩;obtain⟨v',h3,h4⟩:=h.key m c hc;rw[hm]at h3;obtain rfl:=Option.some.inj h3;have hce:c=colK L E top k:=PU (by rw[Cu (mem_of_getElem? hc),HY]) (by rw[Cu (mem_of_getElem? hc)];exact hl) fun s hs=>h4.inj hWk hs;rw[hce]at hc;obtain⟨l1,q1⟩:=List.getElem?_eq_some_iff.1 hc;obtain⟨l2,q2⟩:=List.getElem?_eq_some_iff.1 hn;have hnd:=List.pairwise_iff_getElem.1 (Cd (col:=colK L E top) k);rcases Nat.lt_trichotomy m n with h5|h5|h5
 ·exact absurd (q1.trans q2.symm) (hnd m n l1 l2 h5)
 ·exact h5
 ·exact absurd (q2.trans q1.symm) (hnd n m l2 l1 h5)
theorem XI.none (h:XI L top S E k j w ws ids H) (hl:L.length<=1024) (hWk:WR w fun s=>(colK L E top k).getD s false) (hn:colK L E top k ∉ firsts (colK L E top) k):w ∉ ws:=by
 intro hw;obtain⟨m,hm⟩:=getElem?_of_mem hw;have hml:m<(firsts (colK L E top) k).length:=by rw[<- h.keys];exact(List.getElem?_eq_some_iff.1 hm).1
 obtain⟨c,hc⟩:∃ c,(firsts (colK L E top) k)[m]?=some c:=⟨_,getElem?_eq_getElem hml⟩;obtain⟨v',h3,h4⟩:=h.key m c hc;rw[hm]at h3;obtain rfl:=Option.some.inj h3;have hce:c=colK L E top k:=PU (by rw[Cu (mem_of_getElem? hc),HY]) (by rw[Cu (mem_of_getElem? hc)];exact hl) fun s hs=>h4.inj hWk hs;exact hn (by rw[<- hce];exact mem_of_getElem? hc)
end rounds
theorem L8 {E:List Int}{top:Int} (he:EndsOk top E) (col:Nat->List Bool) (c:List Bool):∀ {n:Nat},n<=E.length->∀ q∈clsOf col (pieceA E top) c n,0<=q.2/\q.2<=top
 | 0,_,q,h=>by simp[clsOf]at h
 | n+1,hn,q,h=>by
   have ih:=L8 he col c (n:=n) (by omega);have st:=he.step (k:=n) (by omega);simp only[clsOf]at h;split at h
   ·have hp:0<=(pieceA E top n).2/\(pieceA E top n).2<=top:=by simp only[pieceA];omega
    rcases List.eq_nil_or_concat (clsOf col (pieceA E top) c n) with e|⟨O,r,e⟩
    ·rw[e,DJ]at h;rw[mem_singleton.1 h];exact hp
    ·rw[List.concat_eq_append]at e;rw[e]at ih h;rw[CP]at h;split at h
     ·rcases mem_append.1 h with h|h
      ·exact ih q (by simp[h])
      ·rw[mem_singleton.1 h];have:=ih r (by simp);simp only;omega
     ·rcases mem_append.1 h with h|h
      ·exact ih q h
      ·rw[mem_singleton.1 h];exact hp
   ·exact ih q h
theorem sf34 (L:List Spans) (top:Int) (h0:0<=top) (htp:top<=1114111) (hs:∀ s∈L,SetV s) (hv:∀ s∈L,refSpans s=0) (hl:L.length<=8192) (hsl:∀ s∈L,s.length<=64) (H:List MB) :
  call Pg pol1 25 [.sl false (L.map setAV),I top] H=some (if 1024<L.length then splitR none else splitR (splitA L (endsR L top) top),H):=by
 have hpl:=AS L;have h67:=sf67 L top h0 htp hs hl hsl;have h66:∀ s∈L,∀ H,call Pg pol1 49 [setAV s] H=some (I 0,H):=fun s hm H=>by
  rw[f121 s (by have:=hsl s hm;omega) H,hv s hm]
 refine AR Tryz.func25 rfl rfl rfl rfl rfl rfl (fun _=>rfl) (by simp[AV.plain,AV.plainL,hpl]) (by
  split
  ·rfl
  ·cases splitA L (endsR L top) top with
   | none=>rfl
   | some c=>simp[splitR,AV.plain,AV.plainL,AS]) ?_ H
 simp +contextual (disch:=omega) only[Tryz.f25,dd25,go_sem,simprocAttr,evAppend,evBin,AV.cells,mu25,↓AE,↓AC,↓AB,↓AA];refine AY (M:=(mskOf (pol1.mask 25) (pol1.gc 25) (pol1.acts 25) 0 2)) rfl L.length (fun i=>(⟨123,[(19,I i),(18,I L.length),(17,.sl false (L.map setAV)),(1,I top),(0,.sl false (L.map setAV))],[]⟩:St)) (fun i=>True) ?_ ?_ trivial _ (by first|rfl|(refine AN rfl (by rfl) (by rfl) (by rfl) ?_ ?_<;>simp[AV.underL,AV.under,MB.under,AD,AI,AG,AF,AL,AM,-map_take,AS]))
 ·intro i hi _;obtain⟨s,hsi⟩:∃ s,L[i]?=some s:=⟨_,getElem?_eq_getElem hi⟩;have hsi':(L.map setAV)[i]?=some (setAV s):=by simp[hsi]
  have h:=h66 s (mem_of_getElem? hsi);simp +contextual (disch:=omega) only[Tryz.f25,dd25,go_sem,simprocAttr,evAppend,evBin,AV.cells,mu25,↓AE,↓AC,↓AB,↓AA,hsi',h];exact(by first|rfl|(refine AN rfl (by rfl) (by rfl) (by rfl) ?_ ?_<;>simp[AV.underL,AV.under,MB.under,AD,AI,AG,AF,AL,AM,-map_take,AS]))
 ·intro _;by_cases hbig:1024<L.length
  ·rw[if_pos hbig];simp +contextual (disch:=omega) only[Tryz.f25,dd25,go_sem,simprocAttr,evAppend,evBin,AV.cells,mu25,↓AE,↓AC,↓AB,↓AA];exact⟨_,rfl⟩
  ·rw[if_neg hbig];have hE:=E5 h0 hs;have hmem:=fun x=>Nf (top:=top) h0 hs (x:=x);have hsm:=HN htp hs;have hsc:ScanOk L top (sortE (endsP top 0 L)) (endsR L top):=⟨hs,h0,by omega,DN hsm,DM _,hE,hmem⟩;have hSl:=DO hsm;have hPl:=D4 (top:=top) (L:=L) (i:=0) hsl;have hEl:=FU h0 hs hsl;generalize endsR L top=E at *;generalize sortE (endsP top 0 L)=S at *;have hpe:=Br S;have hrow0:List.replicate 16 (0:Int)=[0,0,0,0,0,0,0,0,0,0,0,0,0,0,0,0]:=rfl;simp +contextual (disch:=omega) only[Tryz.f25,dd25,go_sem,simprocAttr,evAppend,evBin,AV.cells,mu25,↓AE,↓AC,↓AB,↓AA,h67]
   refine CZ (σ:=XS) (M:=(mskOf (pol1.mask 25) (pol1.gc 25) (pol1.acts 25) 0 17)) rfl (fun x=>(⟨123,[(13,I (lastP E top x.k)),(12,.ms 2 1 (firsts (colK L E top) x.k).length 0 (firsts (colK L E top) x.k).length),(11,.mpr 1),(10,.rf 0 1 0 0),(9,.sl false ((S.drop x.j).map el2)),(1,I top)],x.H⟩:St))
    (fun x=>XI L top S E x.k x.j x.w x.ws x.ids x.H/\From S x.j (lastP E top x.k)) (fun x=>E.length-x.k)
    ⟨0,0,List.replicate 16 0,[],[],[.row 16 [wAV (List.replicate 16 0)] 0,.mp KK16 [],.row 1 [] 0]⟩ ?_ ⟨⟨zero_le _,zero_le _,WR.zero,rfl,rfl,rfl,fun n c h=>by simp[firsts]at h,⟨rfl,rfl,fun n id c h=>by simp at h,.nil,fun id h=>by simp at h⟩,by rintro(h|⟨c,h,_⟩)<;>simp[firsts]at h⟩,by rw[show lastP E top 0=0 from BI hE.first];exact From.zero hsc⟩ _ ?_
   ·rintro⟨k,j,w,ws,ids,H⟩ ⟨hi,hfr⟩;simp only at hi hfr |-;by_cases hk:k<E.length
    ·have hst:=hE.step hk;simp +contextual (disch:=omega) only[Tryz.f25,dd25,go_sem,simprocAttr,evAppend,evBin,AV.cells,mu25,↓AE,↓AC,↓AB,↓AA]
     refine CZ (σ:=XS) (M:=(mskOf (pol1.mask 25) (pol1.gc 25) (pol1.acts 25) 0 18)) rfl (fun x=>(⟨123,[(13,I (lastP E top k)),(12,.ms 2 1 (firsts (colK L E top) k).length 0 (firsts (colK L E top) k).length),(11,.mpr 1),(10,.rf 0 1 0 0),(9,.sl false ((S.drop x.j).map el2)),(1,I top)],x.H⟩:St))
      (fun x=>XI L top S E k x.j x.w ws ids x.H/\Mid S x.j (lastP E top k)) (fun x=>S.length-x.j)
      ⟨k,j,w,ws,ids,H⟩ ?_ ⟨hi,hfr.mid⟩ _ (by first|rfl|(refine AN rfl (by rfl) (by rfl) (by rfl) ?_ ?_<;>simp[AV.underL,AV.under,MB.under,AD,AI,AG,AF,AL,AM,-map_take,AS]))
     rintro⟨_,j,w,_,_,H⟩ ⟨hi,hmid⟩;simp only at hi hmid |-;by_cases hend:∃ e,S[j]?=some e/\e.1=lastP E top k
     ·obtain⟨e,he,hat⟩:=hend;have hjl:=(List.getElem?_eq_some_iff.1 he).1;obtain⟨⟨s,hes,hsl1⟩,_⟩:=hsc.at he;have hdl:(S.drop j).map el2=.agg [I (lastP E top k),I s]::(S.drop (j+1)).map el2:=by
       rw[List.drop_eq_getElem_cons hjl,(List.getElem?_eq_some_iff.1 he).2,map_cons];simp only[el2,hat,hes]
      obtain⟨x,hx1,hx2,_⟩:=hi.wr.2 (s / 64) (by omega);have hx':(w.map U)[s / 64]?=some (U x):=by simp[hx1]
      have hw16:=hi.wr.1;have hb0:=hi.b0;have q1:=Kx s (by omega);have q2:=Kw s;have q3:=Pu (s % 64) (by omega);have q4:=Lz x (2 ^ (s % 64)) (s % 64) rfl;rw[hdl];simp +contextual (disch:=omega) only[Tryz.f25,dd25,go_sem,simprocAttr,evAppend,AV.cells,mu25,↓AE,↓AC,↓AB,↓AA,Bc,Bd,q1,q2,q3,q4,hb0,hx'];rw[OT (by omega)];refine⟨by unfold dOk;kernel_rfl,by kernel_rfl,List.all_eq_true.2 fun y hy=>?_,⟨k,j+1,w.set (s / 64) (xorW x (s % 64)),ws,ids,H.set 0 (.row 16 [wAV (w.set (s / 64) (xorW x (s % 64)))] 0)⟩,⟨hi.tog he hes (by omega) hx1,hmid.step he hat⟩,by show S.length-(j+1)<S.length-j;omega,?_⟩
      ·obtain⟨z,_,rfl⟩:=mem_map.1 hy;rfl
      ·rw[take_of_length_le (by simp)];rfl
     ·have hpast:=hmid.past hsc.sorted fun e he h=>hend ⟨e,he,h⟩;obtain⟨hnx,hfr2⟩:=Past.next hsc hk hpast;have hpar:=fun s=>Past.par hsc (show lastP E top k<=top by omega) hpast s;have hWk:WR w fun s=>(colK L E top k).getD s false:=hi.wr.congr fun s _=>hpar s;have hb0:=hi.b0;have hb1:H[1]?=some (.mp (.flat 90 [some .u64,some .u64,some .u64,some .u64,some .u64,some .u64,some .u64,some .u64,some .u64,some .u64,some .u64,some .u64,some .u64,some .u64,some .u64,some .u64]) (ent 0 ws)):=hi.b1;have hout:=hi.cls.out;have hw16:=hi.wr.1;have hko:=Q2 hw16;have htk:List.take 16 (w.map U)=w.map U:=take_of_length_le (by simp[hw16]);have hcellW:(wAV w).cells=w.map U:=rfl;have hcellM:∀ a b c d e,(AV.ms a b c d e).cells=[.ms a b c d e]:=fun _ _ _ _ _=>rfl;have hcellE:∀ a b:Int,(AV.agg [I a,I b]).cells=[I a,I b]:=fun _ _=>rfl;have hcellI:∀ k n,(AV.int k n).cells=[.int k n]:=fun _ _=>rfl;have hfw:(firsts (colK L E top) k).length<=1024:=by
       have:=hi.few;exact Nat.le_of_not_lt fun h=>this (.inl h)
      cases hSj:S[j]? with
      | none=>
        have hd:S.drop j=[]:=List.drop_eq_nil_of_le (List.getElem?_eq_none_iff.1 hSj);rw[hSj]at hnx;simp only at hnx;rw[hd];obtain⟨la,hla⟩:∃ la,la=top:=⟨_,rfl⟩;have hpcx:pieceA E top k=(lastP E top k,top):=by simp only[pieceA,hnx];congr 1;omega
        have hat2:IntKind.i64.wrap (top+1)=lastP E top (k+1):=by rw[i64_in]<;>omega
        by_cases hold:colK L E top k∈firsts (colK L E top) k
        ·obtain⟨n,hn⟩:=getElem?_of_mem hold;have hnl:=(List.getElem?_eq_some_iff.1 hn).1;obtain⟨e1,e2,e3⟩:=Dn (pc:=pieceA E top) hn;have hf:=hi.find (by omega) hWk hn;obtain⟨id,hid⟩:∃ id,ids[n]?=some id:=⟨_,getElem?_eq_getElem (by rw[hi.cls.len,BQ];exact hnl)⟩;have hrow:=hi.cls.rows n id _ hid e3;have hCl:(clsAV ids (classesA (colK L E top) (pieceA E top) k)).length=(firsts (colK L E top) k).length:=by rw[CL hi.cls.len,BQ]
         have hCn:=K6 hid e3;have hcpos:=FY (pc:=pieceA E top) hold;have hc64:¬ 64<(clsOf (colK L E top) (pieceA E top) (colK L E top k) k).length:=fun h=>hi.few (.inr ⟨_,hold,h⟩);have hin:=L8 hE (colK L E top) (colK L E top k) (n:=k) (by omega);obtain⟨H1,h68,hu⟩:=RO (p:=pieceA E top k) hrow rfl hcpos (by omega) (fun q hq=>by have:=(hin q hq).2;omega) (by rw[hpcx];exact⟨by simp only;omega,by simp only;omega,by simp only;omega⟩) (fun q hq=>(hin q hq).1);have hnew:=fun h64=>hi.old hk hn hid hu h64;have hbadk:=fun h64:64<(addI (clsOf (colK L E top) (pieceA E top) (colK L E top k) k) (pieceA E top k)).length=>CD (L:=L) (E:=E) (top:=top) (n:=k+1) (by omega) (.inr ⟨colK L E top k,by rw[e1];exact hold,by simp only[clsOf,if_true];exact h64⟩);have hid3:=hi.cls.high id (mem_of_getElem? hid);have h2l:=(List.getElem?_eq_some_iff.1 hout).1;have hout1:H1[2]?=some (.row 1 (clsAV ids (classesA (colK L E top) (pieceA E top) k)) 0):=by rw[hu.same 2 (by omega) h2l];exact hout
         have hset:=fun y:MB=>getElem?_set_self (a:=y) (show 2<H1.length by have:=hu.len;omega);rw[hpcx]at h68;simp only at h68;rw[<- hpcx]at h68;generalize (addI (clsOf (colK L E top) (pieceA E top) (colK L E top k) k) (pieceA E top k)).length=m at *;generalize (clsOf (colK L E top) (pieceA E top) (colK L E top k) k).length=c at *;have hCs:∀ v:AV,((clsAV ids (classesA (colK L E top) (pieceA E top) k)).set n v)[n]?=some v:=fun v=>getElem?_set_self (by rw[hCl];exact hnl);generalize clsAV ids (classesA (colK L E top) (pieceA E top) k)=C at *;by_cases h64:64<m
         ·rw[hbadk h64];simp +contextual (disch:=omega) only[Tryz.f25,dd25,go_sem,simprocAttr,evAppend,mu25,↓AE,↓AC,↓AB,↓AA,hd,Bc,Bd,Bo,Bn,hb0,hb1,htk,hw16,hko,hf,hout,hCl,hCn,h68,hout1,hset,hCs,List.length_set,hcellW,hcellM,hcellI,hcellE,hfw];exact⟨_,rfl⟩
         ·simp +contextual (disch:=omega) only[Tryz.f25,dd25,go_sem,simprocAttr,evAppend,mu25,↓AE,↓AC,↓AB,↓AA,hd,Bc,Bd,Bo,Bn,hb0,hb1,htk,hw16,hko,hf,hout,hCl,hCn,h68,hout1,hset,hCs,List.length_set,hcellW,hcellM,hcellI,hcellE,hat2,hfw];refine⟨⟨k+1,j,w,ws,ids,_⟩,⟨hnew h64,hfr2⟩,by show E.length-(k+1)<E.length-k;omega,?_⟩;simp only[e1];rw[hd];rfl
        ·have e1:=(Do (pc:=pieceA E top) hold).1;have hN1:(firsts (colK L E top) (k+1)).length=(firsts (colK L E top) k).length+1:=by rw[e1];simp
         have hww:=hi.none (by omega) hWk hold;have hf:=FO (i:=0) hww;have hup:=JQ (i:=0) hww;rw[zero_add,hi.keys]at hup;have hCl:(clsAV ids (classesA (colK L E top) (pieceA E top) k)).length=(firsts (colK L E top) k).length:=by rw[CL hi.cls.len,BQ]
         have h2l:=(List.getElem?_eq_some_iff.1 hout).1;have hg2:getRow (H.set 1 (.mp KK16 (ent 0 (ws++[w])))) 2=some (1,clsAV ids (classesA (colK L E top) (pieceA E top) k),0):=by
          unfold getRow;rw[getElem?_set_ne (by omega),hout]
         obtain⟨Hb,hHb⟩:∃ Hb,Hb=(H.set 1 (.mp KK16 (ent 0 (ws++[w])))).set 2 (.row 1 (clsAV ids (classesA (colK L E top) (pieceA E top) k)++[AV.sl true []]) 0):=⟨_,rfl⟩;have ha:∀ t,evAppend Pg (H.set 1 (.mp (.flat 90 [some .u64,some .u64,some .u64,some .u64,some .u64,some .u64,some .u64,some .u64,some .u64,some .u64,some .u64,some .u64,some .u64,some .u64,some .u64,some .u64]) (ent 0 (ws++[w])))) 33 33 (.ms 2 1 (firsts (colK L E top) k).length 0 (firsts (colK L E top) k).length) (.sl t [.sl true []])=some (.ms 2 1 ((firsts (colK L E top) k).length+1) 0 ((firsts (colK L E top) k).length+1),Hb):=fun t=>by
          have hs:srcElems Pg (H.set 1 (.mp KK16 (ent 0 (ws++[w])))) 23 (.sl t [.sl true []])=some [.sl true []]:=rfl;have:=Ai (sT:=33) (xT:=33) (e:=23) (by kernel_rfl) (by kernel_rfl) (k:=1) (by kernel_rfl) (by_:=24) (by kernel_rfl) (ze:=.sl true []) (by kernel_rfl) rfl (by omega) hs (by simp[AV.cells,AV.ok]) hg2 hCl (zero_le _) (Ae (by simp;omega) (by omega));rw[hHb];exact this
         have hb2:Hb[2]?=some (.row 1 (clsAV ids (classesA (colK L E top) (pieceA E top) k)++[AV.sl true []]) 0):=by rw[hHb];exact getElem?_set_self (by simpa using h2l)
         obtain⟨Hc,h68,hu⟩:=OU Hb (pieceA E top k);have hbl:Hb.length=H.length:=by rw[hHb];simp
         have hc2:Hc[2]?=some (.row 1 (clsAV ids (classesA (colK L E top) (pieceA E top) k)++[AV.sl true []]) 0):=by rw[hu.same 2 (by omega) (by omega)];exact hb2
         have hset:=fun y:MB=>getElem?_set_self (a:=y) (show 2<Hc.length by have:=hu.len;omega);have hnew:=fun hm=>hi.new hk hold hWk hHb hu hm;have hbadk:=fun hm:1024<(firsts (colK L E top) k).length+1=>CD (L:=L) (E:=E) (top:=top) (n:=k+1) (by omega) (.inl (by rw[e1,length_append];exact hm));rw[hpcx]at h68;simp only at h68;generalize (firsts (colK L E top) k).length=N at *;generalize hCC:clsAV ids (classesA (colK L E top) (pieceA E top) k)=C at *;have hCn:(C++[AV.sl true []])[N]?=some (AV.sl true []):=by rw[<- hCl];simp
         have hCl2:(C++[AV.sl true []]).length=N+1:=by simp[hCl]
         have hCs:∀ v:AV,((C++[AV.sl true []]).set N v)[N]?=some v:=fun v=>getElem?_set_self (by rw[hCl2];omega);have hCsl:∀ v:AV,((C++[AV.sl true []]).set N v).length=N+1:=fun v=>by rw[List.length_set];exact hCl2
         generalize C++[AV.sl true []]=C2 at *;have hcellN:(AV.sl true []).cells=[.sl true []]:=rfl;by_cases hm:1024<N+1
         ·rw[hbadk hm];simp +contextual (disch:=omega) only[Tryz.f25,dd25,go_sem,simprocAttr,mu25,↓AE,↓AC,↓AB,↓AA,hd,Bc,Bd,Bo,Bn,hb0,hb1,htk,hw16,hko,hf,hup,hout,ha,hb2,hc2,hCn,hCl2,hCs,hCsl,h68,hset,List.length_set,hcellW,hcellM,hcellI,hcellE,hcellN];exact⟨_,rfl⟩
         ·simp +contextual (disch:=omega) only[Tryz.f25,dd25,go_sem,simprocAttr,mu25,↓AE,↓AC,↓AB,↓AA,hd,Bc,Bd,Bo,Bn,hb0,hb1,htk,hw16,hko,hf,hup,hout,ha,hb2,hc2,hCn,hCl2,hCs,hCsl,h68,hset,List.length_set,hcellW,hcellM,hcellI,hcellE,hcellN,hat2];refine⟨⟨k+1,j,w,ws++[w],ids++[Hb.length+1],_⟩,⟨hnew hm,hfr2⟩,by show E.length-(k+1)<E.length-k;omega,?_⟩;simp only[hN1];rw[hd];rfl
      | some e=>
        have hjl:=(List.getElem?_eq_some_iff.1 hSj).1;have hdl:(S.drop j).map el2=.agg [I e.1,I e.2]::(S.drop (j+1)).map el2:=by
         rw[List.drop_eq_getElem_cons hjl,(List.getElem?_eq_some_iff.1 hSj).2,map_cons];rfl
        have hne:e.1≠lastP E top k:=fun h=>hend ⟨e,hSj,h⟩;have hea:=(hsc.at hSj).2.2;have heg:=hpast.2 j e (le_refl _) hSj;have hwl:IntKind.i64.wrap (e.1-1)=e.1-1:=by rw[i64_in];omega
        rw[hSj]at hnx;simp only at hnx;rw[hdl];obtain⟨la,hla⟩:∃ la,la=(e.1-1):=⟨_,rfl⟩;have hpcx:pieceA E top k=(lastP E top k,(e.1-1)):=by simp only[pieceA,hnx]
        have hat2:IntKind.i64.wrap ((e.1-1)+1)=lastP E top (k+1):=by rw[i64_in]<;>omega
        by_cases hold:colK L E top k∈firsts (colK L E top) k
        ·obtain⟨n,hn⟩:=getElem?_of_mem hold;have hnl:=(List.getElem?_eq_some_iff.1 hn).1;obtain⟨e1,e2,e3⟩:=Dn (pc:=pieceA E top) hn;have hf:=hi.find (by omega) hWk hn;obtain⟨id,hid⟩:∃ id,ids[n]?=some id:=⟨_,getElem?_eq_getElem (by rw[hi.cls.len,BQ];exact hnl)⟩;have hrow:=hi.cls.rows n id _ hid e3;have hCl:(clsAV ids (classesA (colK L E top) (pieceA E top) k)).length=(firsts (colK L E top) k).length:=by rw[CL hi.cls.len,BQ]
         have hCn:=K6 hid e3;have hcpos:=FY (pc:=pieceA E top) hold;have hc64:¬ 64<(clsOf (colK L E top) (pieceA E top) (colK L E top k) k).length:=fun h=>hi.few (.inr ⟨_,hold,h⟩);have hin:=L8 hE (colK L E top) (colK L E top k) (n:=k) (by omega);obtain⟨H1,h68,hu⟩:=RO (p:=pieceA E top k) hrow rfl hcpos (by omega) (fun q hq=>by have:=(hin q hq).2;omega) (by rw[hpcx];exact⟨by simp only;omega,by simp only;omega,by simp only;omega⟩) (fun q hq=>(hin q hq).1);have hnew:=fun h64=>hi.old hk hn hid hu h64;have hbadk:=fun h64:64<(addI (clsOf (colK L E top) (pieceA E top) (colK L E top k) k) (pieceA E top k)).length=>CD (L:=L) (E:=E) (top:=top) (n:=k+1) (by omega) (.inr ⟨colK L E top k,by rw[e1];exact hold,by simp only[clsOf,if_true];exact h64⟩);have hid3:=hi.cls.high id (mem_of_getElem? hid);have h2l:=(List.getElem?_eq_some_iff.1 hout).1;have hout1:H1[2]?=some (.row 1 (clsAV ids (classesA (colK L E top) (pieceA E top) k)) 0):=by rw[hu.same 2 (by omega) h2l];exact hout
         have hset:=fun y:MB=>getElem?_set_self (a:=y) (show 2<H1.length by have:=hu.len;omega);rw[hpcx]at h68;simp only at h68;rw[<- hpcx]at h68;generalize (addI (clsOf (colK L E top) (pieceA E top) (colK L E top k) k) (pieceA E top k)).length=m at *;generalize (clsOf (colK L E top) (pieceA E top) (colK L E top k) k).length=c at *;have hCs:∀ v:AV,((clsAV ids (classesA (colK L E top) (pieceA E top) k)).set n v)[n]?=some v:=fun v=>getElem?_set_self (by rw[hCl];exact hnl);generalize clsAV ids (classesA (colK L E top) (pieceA E top) k)=C at *;by_cases h64:64<m
         ·rw[hbadk h64];simp +contextual (disch:=omega) only[Tryz.f25,dd25,go_sem,simprocAttr,evAppend,mu25,↓AE,↓AC,↓AB,↓AA,hwl,Bc,Bd,Bo,Bn,hb0,hb1,htk,hw16,hko,hf,hout,hCl,hCn,h68,hout1,hset,hCs,List.length_set,hcellW,hcellM,hcellI,hcellE,hfw];exact⟨_,rfl⟩
         ·simp +contextual (disch:=omega) only[Tryz.f25,dd25,go_sem,simprocAttr,evAppend,mu25,↓AE,↓AC,↓AB,↓AA,hwl,Bc,Bd,Bo,Bn,hb0,hb1,htk,hw16,hko,hf,hout,hCl,hCn,h68,hout1,hset,hCs,List.length_set,hcellW,hcellM,hcellI,hcellE,hat2,hfw];refine⟨⟨k+1,j,w,ws,ids,_⟩,⟨hnew h64,hfr2⟩,by show E.length-(k+1)<E.length-k;omega,?_⟩;simp only[e1];rw[hdl];rfl
        ·have e1:=(Do (pc:=pieceA E top) hold).1;have hN1:(firsts (colK L E top) (k+1)).length=(firsts (colK L E top) k).length+1:=by rw[e1];simp
         have hww:=hi.none (by omega) hWk hold;have hf:=FO (i:=0) hww;have hup:=JQ (i:=0) hww;rw[zero_add,hi.keys]at hup;have hCl:(clsAV ids (classesA (colK L E top) (pieceA E top) k)).length=(firsts (colK L E top) k).length:=by rw[CL hi.cls.len,BQ]
         have h2l:=(List.getElem?_eq_some_iff.1 hout).1;have hg2:getRow (H.set 1 (.mp KK16 (ent 0 (ws++[w])))) 2=some (1,clsAV ids (classesA (colK L E top) (pieceA E top) k),0):=by
          unfold getRow;rw[getElem?_set_ne (by omega),hout]
         obtain⟨Hb,hHb⟩:∃ Hb,Hb=(H.set 1 (.mp KK16 (ent 0 (ws++[w])))).set 2 (.row 1 (clsAV ids (classesA (colK L E top) (pieceA E top) k)++[AV.sl true []]) 0):=⟨_,rfl⟩;have ha:∀ t,evAppend Pg (H.set 1 (.mp (.flat 90 [some .u64,some .u64,some .u64,some .u64,some .u64,some .u64,some .u64,some .u64,some .u64,some .u64,some .u64,some .u64,some .u64,some .u64,some .u64,some .u64]) (ent 0 (ws++[w])))) 33 33 (.ms 2 1 (firsts (colK L E top) k).length 0 (firsts (colK L E top) k).length) (.sl t [.sl true []])=some (.ms 2 1 ((firsts (colK L E top) k).length+1) 0 ((firsts (colK L E top) k).length+1),Hb):=fun t=>by
          have hs:srcElems Pg (H.set 1 (.mp KK16 (ent 0 (ws++[w])))) 23 (.sl t [.sl true []])=some [.sl true []]:=rfl;have:=Ai (sT:=33) (xT:=33) (e:=23) (by kernel_rfl) (by kernel_rfl) (k:=1) (by kernel_rfl) (by_:=24) (by kernel_rfl) (ze:=.sl true []) (by kernel_rfl) rfl (by omega) hs (by simp[AV.cells,AV.ok]) hg2 hCl (zero_le _) (Ae (by simp;omega) (by omega));rw[hHb];exact this
         have hb2:Hb[2]?=some (.row 1 (clsAV ids (classesA (colK L E top) (pieceA E top) k)++[AV.sl true []]) 0):=by rw[hHb];exact getElem?_set_self (by simpa using h2l)
         obtain⟨Hc,h68,hu⟩:=OU Hb (pieceA E top k);have hbl:Hb.length=H.length:=by rw[hHb];simp
         have hc2:Hc[2]?=some (.row 1 (clsAV ids (classesA (colK L E top) (pieceA E top) k)++[AV.sl true []]) 0):=by rw[hu.same 2 (by omega) (by omega)];exact hb2
         have hset:=fun y:MB=>getElem?_set_self (a:=y) (show 2<Hc.length by have:=hu.len;omega);have hnew:=fun hm=>hi.new hk hold hWk hHb hu hm;have hbadk:=fun hm:1024<(firsts (colK L E top) k).length+1=>CD (L:=L) (E:=E) (top:=top) (n:=k+1) (by omega) (.inl (by rw[e1,length_append];exact hm));rw[hpcx]at h68;simp only at h68;generalize (firsts (colK L E top) k).length=N at *;generalize hCC:clsAV ids (classesA (colK L E top) (pieceA E top) k)=C at *;have hCn:(C++[AV.sl true []])[N]?=some (AV.sl true []):=by rw[<- hCl];simp
         have hCl2:(C++[AV.sl true []]).length=N+1:=by simp[hCl]
         have hCs:∀ v:AV,((C++[AV.sl true []]).set N v)[N]?=some v:=fun v=>getElem?_set_self (by rw[hCl2];omega);have hCsl:∀ v:AV,((C++[AV.sl true []]).set N v).length=N+1:=fun v=>by rw[List.length_set];exact hCl2
         generalize C++[AV.sl true []]=C2 at *;have hcellN:(AV.sl true []).cells=[.sl true []]:=rfl;by_cases hm:1024<N+1
         ·rw[hbadk hm];simp +contextual (disch:=omega) only[Tryz.f25,dd25,go_sem,simprocAttr,mu25,↓AE,↓AC,↓AB,↓AA,hwl,Bc,Bd,Bo,Bn,hb0,hb1,htk,hw16,hko,hf,hup,hout,ha,hb2,hc2,hCn,hCl2,hCs,hCsl,h68,hset,List.length_set,hcellW,hcellM,hcellI,hcellE,hcellN];exact⟨_,rfl⟩
         ·simp +contextual (disch:=omega) only[Tryz.f25,dd25,go_sem,simprocAttr,mu25,↓AE,↓AC,↓AB,↓AA,hwl,Bc,Bd,Bo,Bn,hb0,hb1,htk,hw16,hko,hf,hup,hout,ha,hb2,hc2,hCn,hCl2,hCs,hCsl,h68,hset,List.length_set,hcellW,hcellM,hcellI,hcellE,hcellN,hat2];refine⟨⟨k+1,j,w,ws++[w],ids++[Hb.length+1],_⟩,⟨hnew hm,hfr2⟩,by show E.length-(k+1)<E.length-k;omega,?_⟩;simp only[hN1];rw[hdl];rfl
    ·have hke:k=E.length:=by have:=hi.k_le;omega
     have hle:lastP E top k=top+1:=B6 (by omega);have hok:splitA L E top=some (classesA (colK L E top) (pieceA E top) k):=by
      rw[hke];exact FC (by rw[<- hke];exact hi.few)
     have hcl:=BQ (col:=colK L E top) (pc:=pieceA E top) k;obtain⟨H',hfin⟩:=hi.cls.fz hcl;rw[hok,hle];simp +contextual (disch:=omega) only[Tryz.f25,dd25,go_sem,simprocAttr,evAppend,evBin,AV.cells,mu25,↓AE,↓AC,↓AB,↓AA];exact⟨H',hfin⟩
   ·simp only[BI hE.first,List.drop_zero,firsts,List.length_nil];rfl
end
section
attribute [local go_sem] evAppend evBin AV.cells
mutual
def setsR:Re->List Spans
 | .mk op set kids _ _ _ _ _=>if op=1 then [set] else setsL kids
def setsL:List Re->List Spans
 | []=>[]
 | k::l=>setsR k++setsL l
end
theorem Ds:∀ a b:List Re,setsL (a++b)=setsL a++setsL b
 | [],b=>by simp[setsL]
 | k::a,b=>by simp[setsL,Ds a b]
theorem GY {l:List Re}{i:Nat}{k:Re} (h:l[i]?=some k):setsL (l.take (i+1))=setsL (l.take i)++setsR k:=by
 rw[AZ h,Ds];simp[setsL]
theorem JL {cf:CF}{it:It}{mu:List Nat}{m:Cfg}{g f h n:Nat}{cs:List AV}{ps:Array Tmp}{asg b:Code}{c:Code×Code}{t:Tm}{H H':List MB}{r:AV}{e:EX}{s':St}{Q:EX->St->Prop} {τ} (mk:Option (List Nat)) (hcc:c=(asg,b)) (hf:m.rf=some f) (hg:look t g=some (.clo h cs)) (hk:(m.lp (loopId b)).k=mk)
  (hne:h≠yldF) (hc:cf h (.yld H.length::cs) (H++[.lp .ready f n (keepT mk t) ps.toList c])=some (r,H')) (he:endLp H' H.length ⟨n,t,H⟩=some (e,s')) (hq:Q e s'):W Pg cf it mu m (.rangeFunc (.tmp g) ps asg b) ⟨n,t,H⟩ Q τ:=by
 subst hcc;exact ML mk hf hg hk hne hc he hq
theorem G2 (n:Nat):∀(xs ys:List MB),(∀ y∈ys.take xs.length,MB.under n y=true)->keptOk n xs ys=true
 | [],ys,_=>by cases ys<;>rfl
 | x::xs,[],_=>rfl
 | x::xs,y::ys,h=>by
   simp only[keptOk,h y (by simp),Bool.true_or,Bool.true_and];exact G2 n xs ys (fun z hz=>h z (by simp[hz]))
theorem OkD.noKids {s:Spans}{kids:List Re}{a b c d:Int}{g:Bool} (h:OkD (.mk 1 s kids a b c d g)):kids=[]:=by
 cases h;rfl
theorem d24 (r:Re) (H:List MB):call Pg pol1 24 [reAV r] H=some (.clo 48 [.rf H.length 1 0 0],H++[.row 8 [reAV r] 0]):=by
 have hfr:frzArgs pol1 24 0 [reAV r] H=some ([reAV r],H):=AT _ _ _ (by simp only[mixOk,AU,Bool.true_or,Bool.or_true,Bool.and_self]);refine AX (pol:=pol1) Tryz.func24 rfl rfl rfl rfl hfr ?_;simp +contextual -implicitDefEqProofs (disch:=omega) only[Tryz.f24,dd24,go_sem,simprocAttr,mu24,↓AE,↓AC,↓AB,↓AA,AK,AJ,AP];rfl
structure Csm (N id mx:Nat) (Hc:List Spans->List MB):Prop where
 len:∀ a,(Hc a).length=N
 und:∀ a n,N<=n->(Hc a).all (MB.under n)=true
 lt:id<N
 yld:∀ a s K,a.length<mx->call Pg pol1 1000000000 [.yld id,setAV s] (Hc a++K)=some (.bool true,Hc (a++[s])++K)
theorem y48 {N id mx:Nat}{Hc:List Spans->List MB} (hC:Csm N id mx Hc) {c:Code×Code} (hc:c=rfOf Pg 48) (k1 k2:Re) :
  Csm (N+4) (N+3) mx (fun a=>Hc a++[.row 1 [.yld id] 0,.row 8 [reAV k1] 0,.row 8 [reAV k2] 0,.lp .ready 48 31 [(2,.rf N 1 0 0)] [25] c]):=by
 have e1:=congrArg (·.1) hc;have e2:=congrArg (·.2) hc;simp only[rfOf,Tryz.func48,Tryz.f48,findRF,List.append_nil,nil_append,List.headD]at e1 e2;refine⟨fun a=>by simp[hC.len],fun a n hn=>?_,by omega,fun a s K ha=>?_⟩
 ·have h1:=hC.und a n (by omega);have h2:=hC.lt;rw[List.all_append,h1];simp[MB.under,AV.underL,AV.under,AD _ _ (AO k1),AD _ _ (AO k2)];omega
 ·have hN:=hC.len;have g:=fun(a:List Spans) (l:List MB) (k:Nat)=>@gA (Hc a) l k;simp only[hN]at g;have g0:=fun(a:List Spans) (l:List MB)=>g a l 0;simp only[Nat.add_zero]at g0;have z:=fun(a:List Spans) (l:List MB) (k:Nat) (b:MB)=>@sA (Hc a) l k b;simp only[hN]at z;have hy:=fun K=>hC.yld a s K ha;clear hc;refine Hh (f:=48) (n:=31) (t:=[(2,.rf N 1 0 0)]) (ps:=[25]) (c:=c) rfl (by simp only[append_assoc,g];rfl) rfl e1 e2 ?_;simp +contextual -implicitDefEqProofs (disch:=omega) only[Tryz.f48,dd48,go_sem,simprocAttr,mu48,↓AE,↓AC,↓AB,↓AA,KU,beginRd,MB.beqT_refl,Cx,hN,append_assoc,cons_append,nil_append,g,g0,z,hy];rw[HT (by simp only[g];rfl)];simp only[z,List.set_cons_succ,List.set_cons_zero]
theorem OH {cf:CF}{it:It}{mu:List Nat}{m:Cfg}{g f h n L:Nat}{cs:List AV}{ps:Array Tmp}{asg b:Code}{c:Code×Code}{t:Tm}{H H':List MB}{r:AV}{e:EX}{s':St}{Q:EX->St->Prop} {τ} (mk:Option (List Nat)) (hL:H.length=L) (hcc:c=(asg,b)) (hf:m.rf=some f) (hg:look t g=some (.clo h cs)) (hk:(m.lp (loopId b)).k=mk)
  (hne:h≠yldF) (hc:cf h (.yld L::cs) (H++[.lp .ready f n (keepT mk t) ps.toList c])=some (r,H')) (he:endLp H' L ⟨n,t,H⟩=some (e,s')) (hq:Q e s'):W Pg cf it mu m (.rangeFunc (.tmp g) ps asg b) ⟨n,t,H⟩ Q τ:=by
 subst hL;exact JL mk hcc hf hg hk hne hc he hq
theorem d48:∀(n:Nat),n<=1000000000->∀ re:Re,re.wt<=n->OkD re->∀ {N id mx:Nat}{Hc:List Spans->List MB},Csm N id mx Hc->∀ {ib:Nat},(∀ a,(Hc a)[ib]?=some (.row 8 [reAV re] 0))->∀ a,a.length+(setsR re).length<=mx ->
  call Pg pol1 48 [.yld id,.rf ib 1 0 0] (Hc a)=some (.tup [],Hc (a++setsR re)):=by
 intro n
 induction n with
 | zero=>
   intro _ re hw;have:=re.wt_pos;omega
 | succ n ih=>
   intro hnb re hw hok N id mx Hc hC ib hib a hm;obtain⟨op,set,kids,mn,mxx,md,nn,neg⟩:=re;have hkid:=OkD.kids hok;have hN:=hC.len;have hlt:=hC.lt;have g:=fun(a:List Spans) (l:List MB) (k:Nat)=>@gA (Hc a) l k;simp only[hN]at g;have g0:=fun(a:List Spans) (l:List MB)=>g a l 0;simp only[Nat.add_zero]at g0;have z:=fun(a:List Spans) (l:List MB) (k:Nat) (b:MB)=>@sA (Hc a) l k b;simp only[hN]at z;have gi:∀ a B,(Hc a++B)[ib]?=some (.row 8 [reAV (.mk op set kids mn mxx md nn neg)] 0):=fun a B=>by rw[getElem?_append_left (List.getElem?_eq_some_iff.1 (hib a)).1];exact hib a
   have gi0:=hib;have hend:∀ a1 a2 G,retPol pol1 48 (Hc a1) (.tup []) (Hc a2++G)=some (.tup [],Hc a2):=fun a1 a2 G=>by
    refine Am rfl rfl rfl (G2 _ _ _ fun y hy=>?_) (by rw[hN,<- hN a2];exact List.take_left' rfl);rw[hN,<- hN a2,List.take_left' rfl]at hy;have:=List.all_eq_true.1 (hC.und a2 _ (le_refl _)) y hy
    rwa [hN]
   obtain⟨c,hc⟩:∃ c:Code×Code,c=rfOf Pg 48:=⟨_,rfl⟩;refine AX (pol:=pol1) Tryz.func48 rfl rfl rfl rfl (show frzArgs pol1 48 0 [.yld id,.rf ib 1 0 0] (Hc a)=some ([.yld id,.rf ib 1 0 0],Hc a) from rfl) ?_;have hY:=hC.yld;have hpr:∀(b:List Spans) (t t':Tm) (G:List MB),keepT (mskOf (pol1.mask 48) (pol1.gc 48) (pol1.acts 48) N 3).k t=t'->AV.underL (N+1) (t'.map (·.2))=true->prep (mskOf (pol1.mask 48) (pol1.gc 48) (pol1.acts 48) N 3) ⟨31,t,Hc b++(.row 1 [.yld id] 0::G)⟩=⟨31,t',Hc b++[.row 1 [.yld id] 0]⟩:=fun b t t' G hk ht=>by
    refine AN (n:=N+1) rfl rfl hk ?_ ht ?_
    ·rw[List.take_append,hN,take_of_length_le (by rw[hN];omega)];simp[Nat.add_sub_cancel_left]
    ·have h1:=hC.und b (N+1) (by omega);rw[List.all_append,h1];simp[MB.under,AV.underL,AV.under];omega
   by_cases h1:op=1
   ·subst h1;obtain rfl:=OkD.noKids hok;simp only[setsR,if_true,List.length_singleton]at hm |-;have hy:=fun K=>hY a set K (by omega);simp +contextual -implicitDefEqProofs (disch:=omega) only[Tryz.f48,dd48,go_sem,simprocAttr,mu48,↓AE,↓AC,↓AB,↓AA,gi,gi0,hN,append_assoc,cons_append,nil_append,g,g0,z,hy,Ab];refine AY (M:=mskOf (pol1.mask 48) (pol1.gc 48) (pol1.acts 48) N 3) (by rfl) 0 (fun i=>(⟨31,[(19,I i),(18,I 0),(17,.sl false []),(2,.rf N 1 0 0)],Hc (a++[set])++[.row 1 [.yld id] 0]⟩:St)) (fun _=>True) (fun i hi=>absurd hi (Nat.not_lt_zero _)) ?_ trivial _ ?_
    ·intro _;simp +contextual -implicitDefEqProofs (disch:=omega) only[Tryz.f48,dd48,go_sem,simprocAttr,mu48,↓AE,↓AC,↓AB,↓AA];exact hend _ _ _
    ·exact hpr _ _ _ _ rfl (by simp[AV.underL,AV.under])
   ·have hset:setsR (.mk op set kids mn mxx md nn neg)=setsL kids:=by simp[setsR,h1]
    rw[hset]at hm |-;simp +contextual -implicitDefEqProofs (disch:=omega) only[Tryz.f48,dd48,go_sem,simprocAttr,mu48,↓AE,↓AC,↓AB,↓AA,gi,gi0,hN,append_assoc,cons_append,nil_append,g,g0,z,h1,Ab];refine AY (M:=mskOf (pol1.mask 48) (pol1.gc 48) (pol1.acts 48) N 3) (by rfl) kids.length (fun i=>(⟨31,[(19,I i),(18,I kids.length),(17,.sl false (kids.map reAV)),(2,.rf N 1 0 0)],Hc (a++setsL (kids.take i))++[.row 1 [.yld id] 0]⟩:St)) (fun _=>True) ?_ ?_ trivial _ ?_
    ·intro i hi _;obtain⟨k,hk⟩:∃ k,kids[i]?=some k:=⟨_,getElem?_eq_getElem hi⟩;have hk':(kids.map reAV)[i]?=some (reAV k):=by simp[hk]
     have hlt:(i:Int)<(kids.length:Int):=by omega
     have h24:=d24 k;simp +contextual -implicitDefEqProofs (disch:=omega) only[Tryz.f48,dd48,go_sem,simprocAttr,mu48,↓AE,↓AC,↓AB,↓AA,hN,append_assoc,cons_append,nil_append,g,g0,z,hk',hlt,h24,AK,AJ,AP];have hkm:=mem_of_getElem? hk;have hst:=GY hk;have hle:(setsL (kids.take (i+1))).length<=(setsL kids).length:=by
      conv=>rhs;rw[<- List.take_append_drop (i+1) kids,Ds,length_append]
      omega
     rw[hst,length_append]at hle;have hwk:=Re.wtL_mem hkm;have key:=ih (by omega) k (by simp only[Re.wt]at hw;omega) (hkid k hkm) (y48 hC hc k k) (ib:=N+2) (fun a=>by rw[g];rfl) (a++setsL (kids.take i)) (by rw[length_append];omega);rw[append_assoc,<- hst]at key;refine OH (c:=c) (L:=N+3) (mk:=some [2]) (by simp[hN]) (hc.trans (by kernel_rfl)) rfl rfl rfl (by decide) (by simp only[append_assoc,cons_append,nil_append];exact key) (HU (by rw[g];rfl)) ?_;have hwi:IntKind.i64.wrap ((i:Int)+1)=((i+1:Nat):Int):=by
      have:=Re.wtL_len kids;simp only[Re.wt]at hw;rw[i64_in]<;>omega
     simp +contextual -implicitDefEqProofs (disch:=omega) only[Tryz.f48,dd48,go_sem,simprocAttr,mu48,↓AE,↓AC,↓AB,↓AA,z,hwi];exact hpr _ _ _ _ rfl (by simp[AV.underL,AV.under,AD _ _ (AH kids)])
    ·intro _;simp +contextual -implicitDefEqProofs (disch:=omega) only[Tryz.f48,dd48,go_sem,simprocAttr,mu48,↓AE,↓AC,↓AB,↓AA];rw[List.take_length];exact hend _ _ _
    ·have e:Hc a=Hc (a++setsL (List.take 0 kids)):=by simp[setsL]
     rw[e];exact hpr _ _ _ _ rfl (by simp[AV.underL,AV.under,AD _ _ (AH kids)])
end
end Go.Ev
namespace Go.Ev
open Classical in
noncomputable def addT (ts:List Re) (q:Re):List Re:=if q∈ts then ts else ts++[q]
open Classical in
noncomputable def ixT (q:Re):List Re->Nat
 | []=>0
 | t::l=>if t=q then 0 else 1+ixT q l
theorem DI {ts:List Re}{q:Re} (h:q∈ts):addT ts q=ts:=if_pos h
theorem Cp {ts:List Re}{q:Re} (h:q ∉ ts):addT ts q=ts++[q]:=if_neg h
theorem LI (ts:List Re) (q:Re):ts.length<=(addT ts q).length/\(addT ts q).length<=ts.length+1:=by
 unfold addT;split<;>simp
theorem Ph {ts:List Re}{q t:Re}:t∈addT ts q↔t∈ts∨t=q:=by
 by_cases h:q∈ts
 ·rw[DI h];exact⟨.inl,fun h2=>h2.elim id fun h3=>h3 ▸ h⟩
 ·rw[Cp h];simp
theorem Ea {ts:List Re}{q:Re} (h:ts.Nodup):(addT ts q).Nodup:=by
 by_cases hq:q∈ts
 ·rw[DI hq];exact h
 ·rw[Cp hq];exact List.nodup_append.2 ⟨h,by simp,fun a ha b hb=>by
   rw[mem_singleton.1 hb];exact fun e=>hq (e ▸ ha)⟩
theorem Pi {ts:List Re}{q r:Re}{i:Nat} (h:ts[i]?=some r):(addT ts q)[i]?=some r:=by
 unfold addT;split
 ·exact h
 ·rw[getElem?_append_left (List.getElem?_eq_some_iff.1 h).1];exact h
theorem G5:∀ {ts:List Re}{q:Re}{b:Nat},ts.Nodup->ts[b]?=some q->ixT q ts=b
 | [],q,b,_,h=>by simp at h
 | t::l,q,0,hn,h=>by
   simp at h;simp[ixT,h]
 | t::l,q,b+1,hn,h=>by
   simp at h;have hn':=List.nodup_cons.1 hn;have hne:t≠q:=fun e=>hn'.1 (e ▸ mem_of_getElem? h);simp only[ixT,if_neg hne,G5 hn'.2 h];omega
noncomputable def stepD (lim:Nat) (r:Re):Option (List Re×List Nat)->Int->Option (List Re×List Nat)
 | none,_=>none
 | some (ts,row),x=>match stepR x r with
   | none=>none
   | some q=>if lim<(addT ts q).length then none else some (addT ts q,row++[ixT q (addT ts q)])
noncomputable def rowD (lim:Nat) (r:Re) (xs:List Int) (ts:List Re):Option (List Re×List Nat):=xs.foldl (stepD lim r) (some (ts,[]))
theorem Bz (lim:Nat) (r:Re):∀ xs:List Int,xs.foldl (stepD lim r) none=none
 | []=>rfl
 | x::xs=>Bz lim r xs
theorem IW {lim:Nat}{r:Re}{xs:List Int}{ts:List Re}{i:Nat}{x:Int} (h:xs[i]?=some x):rowD lim r (xs.take (i+1)) ts=stepD lim r (rowD lim r (xs.take i) ts) x:=by
 have:xs.take (i+1)=xs.take i++[x]:=by
  rw[List.take_add_one,h];rfl
 unfold rowD;rw[this,List.foldl_append];rfl
theorem FE {lim:Nat}{r:Re}{xs:List Int}{ts:List Re}{i:Nat} (h:rowD lim r (xs.take i) ts=none):rowD lim r xs ts=none:=by
 unfold rowD at *;rw[<- List.take_append_drop i xs,List.foldl_append,h];exact Bz lim r _
theorem M8 {lim:Nat}{r:Re}{x:Int}{ts ts':List Re}{row row':List Nat} (h:stepD lim r (some (ts,row)) x=some (ts',row')):ts.length<=ts'.length/\ts'.length<=ts.length+1/\row'.length=row.length+1:=by
 simp only[stepD]at h;split at h
 ·cases h
 ·split at h
  ·cases h
  ·rename_i q _ _;simp only[Option.some.injEq,Prod.mk.injEq]at h;obtain⟨rfl,rfl⟩:=h;have:=LI ts q;exact⟨this.1,this.2,by simp⟩
theorem M7 {lim lim':Nat}{r:Re} (hl:lim'<=lim) {x:Int}{s:Option (List Re×List Nat)}:stepD lim' r s x=stepD lim r s x∨stepD lim' r s x=none/\(∀ ts row,stepD lim r s x=some (ts,row)->lim'<ts.length):=by
 cases s with
 | none=>exact .inl rfl
 | some s=>
   obtain⟨ts,row⟩:=s;simp only[stepD];cases stepR x r with
   | none=>exact .inl rfl
   | some q=>
     simp only;by_cases h:lim'<(addT ts q).length
     ·rw[if_pos h];refine .inr ⟨rfl,fun ts2 row2 h2=>?_⟩;split at h2
      ·cases h2
      ·simp only[Option.some.injEq,Prod.mk.injEq]at h2;rw[<- h2.1];exact h
     ·rw[if_neg h,if_neg (by omega)];exact .inl rfl
theorem JZ {lim:Nat}{r:Re}:∀ {xs:List Int}{ts ts':List Re}{row row':List Nat},xs.foldl (stepD lim r) (some (ts,row))=some (ts',row')->ts.length<=ts'.length/\row'.length=row.length+xs.length/\ts'.length<=ts.length+xs.length
 | [],ts,ts',row,row',h=>by
   simp only[List.foldl_nil,Option.some.injEq,Prod.mk.injEq]at h;obtain⟨rfl,rfl⟩:=h;exact⟨le_refl _,rfl,le_refl _⟩
 | x::xs,ts,ts',row,row',h=>by
   rw[List.foldl_cons]at h;cases hs:stepD lim r (some (ts,row)) x with
   | none=>rw[hs,Bz]at h;cases h
   | some p=>
     obtain⟨t1,r1⟩:=p;rw[hs]at h;have h1:=M8 hs;have h2:=JZ h;simp only[List.length_cons];omega
theorem KQ {lim lim':Nat}{r:Re} (hl:lim'<=lim):∀ {xs:List Int}{ts:List Re}{row:List Nat},xs.foldl (stepD lim' r) (some (ts,row))=xs.foldl (stepD lim r) (some (ts,row))∨xs.foldl (stepD lim' r) (some (ts,row))=none/\(∀ ts' row',xs.foldl (stepD lim r) (some (ts,row))=some (ts',row')->lim'<ts'.length)
 | [],ts,row=>.inl rfl
 | x::xs,ts,row=>by
   rw[List.foldl_cons,List.foldl_cons];rcases M7 (r:=r) (x:=x) (s:=some (ts,row)) hl with h|⟨h1,h2⟩
   ·rw[h];cases hs:stepD lim r (some (ts,row)) x with
    | none=>exact .inl (by rw[Bz,Bz])
    | some p=>
      obtain⟨t1,r1⟩:=p;exact KQ hl
   ·rw[h1,Bz];refine .inr ⟨rfl,fun ts' row' h=>?_⟩;cases hs:stepD lim r (some (ts,row)) x with
    | none=>rw[hs,Bz]at h;cases h
    | some p=>
      obtain⟨t1,r1⟩:=p;have:=h2 t1 r1 hs;rw[hs]at h;have:=(JZ h).1;omega
inductive AOut where
 | err
 | more
 | ok (rows:List (List Nat)) (accs:List Bool)
noncomputable def autoF (lim most:Nat) (xs:List Int):Nat->List Re->List (List Nat)->List Bool->AOut
 | 0,_,_,_=>.err
 | f+1,ts,rows,accs=>match ts[rows.length]? with
   | none=>.ok rows accs
   | some r=>match rowD lim r xs ts with
     | none=>.err
     | some (ts',row)=>if most<ts'.length then .more else autoF lim most xs f ts' (rows++[row]) (accs++[nullG r])
theorem JK {lim:Nat} (hl:1024<=lim) {xs:List Int}:∀ {f:Nat}{ts:List Re}{rows:List (List Nat)}{accs:List Bool},autoF lim 60 xs f ts rows accs≠.more->autoF 1024 1024 xs f ts rows accs=autoF lim 60 xs f ts rows accs
 | 0,ts,rows,accs,_=>rfl
 | f+1,ts,rows,accs,h=>by
   simp only[autoF]at h |-;cases ht:ts[rows.length]? with
   | none=>rfl
   | some r=>
     rw[ht]at h;simp only at h |-;rcases KQ (r:=r) (xs:=xs) (ts:=ts) (row:=[]) hl with h1|⟨h1,h2⟩
     ·have h1':rowD 1024 r xs ts=rowD lim r xs ts:=h1;rw[h1'];cases hr:rowD lim r xs ts with
      | none=>rfl
      | some p=>
        obtain⟨ts',row⟩:=p;rw[hr]at h;simp only at h |-;by_cases hm:60<ts'.length
        ·rw[if_pos hm]at h;exact absurd rfl h
        ·rw[if_neg hm]at h |-;rw[if_neg (by omega)];exact JK hl h
     ·have h1':rowD 1024 r xs ts=none:=h1;rw[h1'];cases hr:rowD lim r xs ts with
      | none=>rfl
      | some p=>
        obtain⟨ts',row⟩:=p;have:=h2 ts' row hr;rw[hr]at h;simp only at h;rw[if_pos (by omega)]at h;exact absurd rfl h
end Go.Ev
namespace Go.Ev
attribute [local go_sem] Ax A8 bndO bnd evEq eqCells not_false_eq_true not_true_eq_false toList_some Array.size_empty length_append List.map_append tySzE List.head?_drop Nat.mul_one Aj Aq Ag Ak Al Ae
section
attribute [local go_sem] evBin AV.cells
abbrev nsAV (l:List Nat):AV:=.sl false (l.map NV)
theorem B5 (l:List Nat):AV.plainL (l.map NV)=true:=by
 induction l with
 | nil=>rfl
 | cons a l ih=>simp[AV.plainL,AV.plain,ih]
theorem Au (l:List (List Nat)):AV.plainL (l.map nsAV)=true:=by
 induction l with
 | nil=>rfl
 | cons a l ih=>simp[AV.plainL,AV.plain,B5,ih]
theorem Ra {H:List MB}{i n z:Nat}{rs:List AV}{x:AV}{t:Bool} (hi:getRow H i=some (1,rs,z)) (hz:z<=n) (hn:rs.length=n) (hr:n+1<=4000000000) (hx:x.cells=[x]) (ho:x.ok=true) :
  evAppend Pg H 34 34 (.ms i 1 n 0 n) (.sl t [x])=some (.ms i 1 (n+1) 0 (n+1),H.set i (.row 1 (rs++[x]) z)):=by
 have hs:srcElems Pg H 22 (.sl t [x])=some [x]:=rfl;rw[Ai (e:=22) (by kernel_rfl) (by kernel_rfl) (k:=1) (by kernel_rfl) (by_:=24) (by kernel_rfl) (ze:=.sl true []) (by kernel_rfl) rfl (by omega) hs (by simp[hx,ho]) hi hn hz (Ae (by simp;omega) (by omega))];rfl
theorem HC {jump:List AV->List MB->Option (List AV×List MB)}{x y:AV}{H H':List MB} (hx:fzA jump x H=some (y,H')):∀(R:List AV),AV.plainL R=true->fzL jump (R++[x]) H=some (R++[y],H')
 | [],_=>by simp only[nil_append,fzL,hx]
 | a::R,h=>by
   simp only[AV.plainL,Bool.and_eq_true]at h;simp only[cons_append,fzL,D2 jump a H h.1,HC hx R h.2]
theorem Mh {a b c a' b' c':AV}{H H1 H2 H3:List MB} (h1:fz a H=some (a',H1)) (h2:fz b H1=some (b',H2)) (h3:fz c H2=some (c',H3)):fz (.agg [a,b,c]) H=some (.agg [a',b',c'],H3):=by
 unfold fz at *;simp only[fzA,fzL,h1,h2,h3]
theorem Qe {a b a' b':AV}{H H1 H2:List MB} (h1:fz a H=some (a',H1)) (h2:fz b H1=some (b',H2)):fz (.tup [a,b]) H=some (.tup [a',b'],H2):=by
 unfold fz at *;simp only[GL,fzL,h1,h2]
theorem PI {id n:Nat}{l:List Nat}{H:List MB}{z:Nat} (hr:getRow H id=some (1,l.map NV,z)) (hn:l.length=n):fz (.ms id 1 n 0 n) H=some (nsAV l,mark H id n):=Az hr (by rw[List.length_map];exact hn) (B5 l)
def autD (C:List Spans) (rows:List (List Nat)) (accs:List Bool):AV:=.agg [.sl false (C.map setAV),.sl false (rows.map nsAV),.sl false (accs.map AV.bool)]
def noD:AV:=.agg [.sl false [],.sl false [],.sl false []]
def headX (C:List Spans):List Int:=C.map fun c=>(c.headD (0,0)).1
def outD (C:List Spans):AOut->AV
 | .ok rows accs=>.tup [autD C rows accs,I 0]
 | _=>.tup [noD,I 4]
noncomputable def autoA (p:Pat):AV:=if chkP p≠0 then .tup [noD,I (chkP p)] else
 match splitA (setsR p.re) (endsR (setsR p.re) (topI p.runes)) (topI p.runes) with
 | none=>.tup [noD,I 4]
 | some C=>if badR p.re=true then .tup [noD,I 4] else outD C (autoF 1024 1024 (headX C) 2000 [nf p.re] [] [])
theorem Li (C:List Spans) (o:AOut):AV.plain (outD C o)=true:=by
 cases o<;>simp[outD,noD,autD,AV.plain,AV.plainL,AS,Au,Ad]
theorem KV (p:Pat):AV.plain (autoA p)=true:=by
 unfold autoA;split
 ·rfl
 ·split
  ·rfl
  ·split
   ·rfl
   ·exact Li _ _
mutual
theorem EL:∀ t:Re,(setsR t).length<=t.size
 | .mk op set kids _ _ _ _ _=>by
   have:=EM kids;simp only[setsR,Re.size];split
   ·simp
   ·omega
theorem EM:∀ l:List Re,(setsL l).length<=Re.sizeL l
 | []=>by simp[setsL]
 | k::l=>by
   have h1:=EL k;have h2:=EM l;simp only[setsL,Re.sizeL,length_append];omega
end
theorem IR {l:List Re}{s:Spans} (h:s∈setsL l):∃ k∈l,s∈setsR k:=by
 induction l with
 | nil=>cases h
 | cons k l ih=>
   simp only[setsL,mem_append]at h;rcases h with h|h
   ·exact⟨k,.head _,h⟩
   ·obtain⟨q,hq,h2⟩:=ih h;exact⟨q,.tail _ hq,h2⟩
theorem KN {t:Re} (h:OkD t):∀ s∈setsR t,SetN s:=by
 induction h with
 | empty=>intro s hs;simp[setsR,setsL]at hs
 | set s h=>intro q hq;simp[setsR]at hq;exact hq ▸ h
 | cat kids h ih=>intro s hs;simp[setsR]at hs;obtain⟨k,hk,h2⟩:=IR hs;exact ih k hk s h2
 | alt kids h ih=>intro s hs;simp[setsR]at hs;obtain⟨k,hk,h2⟩:=IR hs;exact ih k hk s h2
 | rep k mn mx md h h1 h2 ih=>intro s hs;simp[setsR,setsL]at hs;exact ih s hs
 | cap k n h ih=>intro s hs;simp[setsR,setsL]at hs;exact ih s hs
theorem EJ {L:List Spans}{E:List Int}{top:Int}{cls:List Spans} (h:splitA L E top=some cls):cls.length<=1024/\∀ c∈cls,0<c.length:=by
 unfold splitA at h;split at h
 ·cases h
 ·rename_i hb;cases h;refine⟨?_,fun c hc=>?_⟩
  ·rw[BQ];exact Nat.le_of_not_lt fun h=>hb (.inl h)
  ·obtain⟨d,hd,rfl⟩:=mem_map.1 hc;exact FY hd
abbrev coH (p:Pat) (c:Code×Code) (a:List Spans):List MB:=[.row 10 [.agg (reC p.re++[I p.caps,.bool p.runes])] 0,.row 3 [.agg [.sl true [],.sl true [],.sl true []]] 0,.row 1 [.ms 3 1 a.length 0 a.length] 0,.row 1 (a.map setAV) 0,.row 8 [reAV p.re] 0,.lp .ready 9 132 [(5,.rf 2 1 0 0)] [28] c]
theorem y9 (p:Pat) {mx:Nat} (hmx:mx<=3000000000) {c:Code×Code} (hc:c=rfOf Pg 9):Csm 6 5 mx (coH p c):=by
 have e1:=congrArg (·.1) hc;have e2:=congrArg (·.2) hc;simp only[rfOf,Tryz.func9,Tryz.f9,findRF,List.append_nil,nil_append,List.headD]at e1 e2;have hpc:=Av p;refine⟨fun a=>rfl,fun a n hn=>?_,by omega,fun a s K ha=>?_⟩
 ·have h3:3<n:=by omega
  have h2:2<n:=by omega
  simp[MB.under,AV.underL,AV.under,AD _ _ (AS a),AD _ _ (AO p.re),AD _ _ (show AV.plainL (reC p.re++[I p.caps,.bool p.runes])=true from hpc),h3,h2]
 ·clear hc;refine Hh (f:=9) (n:=132) (t:=[(5,.rf 2 1 0 0)]) (ps:=[28]) (c:=c) rfl rfl rfl e1 e2 ?_;have a1:=fun(b0 b1 b2 b4 b5:MB) (K:List MB) (t:Bool)=>Pc (H:=b0::b1::b2::.row 1 (a.map setAV) 0::b4::b5::K) (i:=3) (n:=a.length) (p:=s) (t:=t) rfl (zero_le _) rfl (by omega);simp only[List.set_cons_succ,List.set_cons_zero]at a1;simp +contextual -implicitDefEqProofs (disch:=omega) only[Tryz.f9,dd9,go_sem,simprocAttr,mu9,↓AE,↓AC,↓AB,↓AA,KU,beginRd,MB.beqT_refl,Cx,a1];rw[HT rfl];rfl
end
end Go.Ev
