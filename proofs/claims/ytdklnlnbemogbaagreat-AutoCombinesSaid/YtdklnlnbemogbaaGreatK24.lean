/- What functions of the program compute; no further conditions. -/
import Derived.Test.YtdklnlnbemogbaaGreatK23
set_option linter.unusedVariables false
set_option linter.unusedSimpArgs false
open List (all_eq_true append_assoc getElem?_append_left getElem?_of_mem getElem?_set_ne getElem?_set_self getElem_mem length_append length_nil map_append map_cons map_take mem_append mem_map mem_singleton nil_append take_of_length_le)
open Nat (le_refl lt_or_ge sub_self zero_add zero_le)
open Go.Proofs Go.RowKit Go.IntWalk
set_option maxHeartbeats 4000000
set_option maxRecDepth 100000
namespace Go.Ev
attribute [local go_sem] strOf An As bndO bnd evEq eqCells not_false_eq_true not_true_eq_false toList_some Array.size_empty length_append tySzE List.head?_drop Nat.mul_one Ac Aj Aa Ad Ae AW
section
attribute [local go_sem] map_append
abbrev U (n:Int):AV:=.int .u64 n
abbrev wAV (w:List Int):AV:=.agg (w.map U)
theorem RP:∀ {a b:List Int},AV.beqL (a.map U) (b.map U)=true↔a=b
 | [],[]=>by simp[AV.beqL]
 | [],_::_=>by simp[AV.beqL]
 | _::_,[]=>by simp[AV.beqL]
 | x::a,y::b=>by
   have:=@RP a b;simp[AV.beqL,AV.beq,this]
theorem HW {a b:List Int}:AV.beq (wAV a) (wAV b)=true↔a=b:=RP
def ent:Nat->List (List Int)->List (AV×AV)
 | _,[]=>[]
 | i,w::ws=>(wAV w,I i)::ent (i+1) ws
theorem MS {w:List Int}:∀ {ws:List (List Int)}{i n:Nat},ws[n]?=some w->(∀ m,ws[m]?=some w->m=n)->findMp (wAV w) (ent i ws)=some (I ((i+n:Nat):Int))
 | [],i,n,h,_=>by simp at h
 | v::ws,i,n,h,hu=>by
   simp only[ent,findMp];by_cases e:v=w
   ·rw[if_pos (HW.2 e)];have:=hu 0 (by simp[e]);subst this;rfl
   ·rw[if_neg (fun h2=>e (HW.1 h2))];cases n with
    | zero=>simp at h;exact absurd h e
    | succ n=>
      rw[MS (ws:=ws) (i:=i+1) (n:=n) (by simpa using h) (fun m hm=>by have:=hu (m+1) (by simpa using hm);omega)];congr 3;omega
theorem GZ {w:List Int}:∀ {ws:List (List Int)}{i:Nat},w ∉ ws->findMp (wAV w) (ent i ws)=none
 | [],i,_=>rfl
 | v::ws,i,h=>by
   simp only[ent,findMp];rw[if_neg (fun h2=>h (by rw[HW.1 h2];simp))];exact GZ fun h2=>h (by simp[h2])
theorem KY {w:List Int}:∀ {ws:List (List Int)}{i:Nat},w ∉ ws->updMp (wAV w) (I ((i+ws.length:Nat):Int)) (ent i ws)=ent i (ws++[w])
 | [],i,_=>by simp[ent,updMp]
 | v::ws,i,h=>by
   simp only[ent,updMp,List.cons_append];rw[if_neg (fun h2=>h (by rw[HW.1 h2];simp))];have:=KY (w:=w) (ws:=ws) (i:=i+1) fun h2=>h (by simp[h2]);rw[<- this];congr 4;simp;omega
theorem KS (k:IntKind):∀(w:List Int) (n:Nat),w.length=n->cellsOk (List.replicate n (some k)) (w.map (AV.int k))=true
 | [],n,h=>by simp at h;subst h;rfl
 | x::w,n,h=>by
   simp at h;subst h;rw[List.replicate_succ,map_cons];simp only[cellsOk,decide_true,Bool.true_and];exact KS k w _ rfl
theorem SN {w:List Int} (h:w.length=16):cellsOk [some .u64,some .u64,some .u64,some .u64,some .u64,some .u64,some .u64,some .u64,some .u64,some .u64,some .u64,some .u64,some .u64,some .u64,some .u64,some .u64] (w.map U)=true:=KS .u64 w 16 h
def clsAV (ids:List Nat) (cls:List Spans):List AV:=List.zipWith (fun id c=>AV.ms id 2 c.length 0 c.length) ids cls
theorem CJ {ids:List Nat}{cls:List Spans} (h:ids.length=cls.length):(clsAV ids cls).length=cls.length:=by simp[clsAV,h]
theorem Mn {ids:List Nat}{cls:List Spans}{n id:Nat}{c:Spans} (h1:ids[n]?=some id) (h2:cls[n]?=some c):(clsAV ids cls)[n]?=some (.ms id 2 c.length 0 c.length):=by
 simp[clsAV,List.getElem?_zipWith,h1,h2]
theorem Pz {ids:List Nat}{cls:List Spans}{n id:Nat} (h1:ids[n]?=some id) (c:Spans):(clsAV ids cls).set n (.ms id 2 c.length 0 c.length)=clsAV ids (cls.set n c):=by
 refine List.ext_getElem? fun i=>?_;unfold clsAV;rw[List.getElem?_set,List.getElem?_zipWith,List.getElem?_zipWith,List.getElem?_set,List.length_zipWith];by_cases e:n=i
 ·subst e;have hlt:=(zgb.1 h1).1;rw[if_pos rfl,if_pos rfl,h1];by_cases h:n<cls.length
  ·rw[if_pos (by omega),if_pos h]
  ·rw[if_neg (by omega),if_neg h]
 ·rw[if_neg e,if_neg e]
theorem Nx {ids:List Nat}{cls:List Spans} (h:ids.length=cls.length) (id:Nat) (c:Spans):clsAV (ids++[id]) (cls++[c])=clsAV ids cls++[.ms id 2 c.length 0 c.length]:=by
 unfold clsAV;rw[List.zipWith_append h];rfl
theorem Lz {H:List MB}{id n i k z:Nat}{els:List AV} (h:getRow H i=some (k,els,z)):∃ z',getRow (mark H id n) i=some (k,els,z'):=by
 unfold mark;cases hr:getRow H id with
 | none=>exact⟨z,h⟩
 | some x=>
   obtain⟨k',els',z0⟩:=x;simp only;have hi:=A4 h;have hid:=A4 hr;unfold getRow;by_cases e:id=i
   ·subst e;rw[h]at hr;cases hr;rw[getElem?_set_self (zgb.1 hid).1];exact⟨_,rfl⟩
   ·rw[getElem?_set_ne e,hi];exact⟨z,rfl⟩
theorem Od (k:Nat):∀(ids:List Nat) (cls:List Spans) (H:List MB),ids.length=cls.length->(∀(n id:Nat) (c:Spans),ids[n]?=some id->cls[n]?=some c->∃ z,getRow H id=some (2,c.map spanAV,z)) ->
  ∃ H',fzL (fzJ (k+1)) (clsAV ids cls) H=some (cls.map setAV,H')
 | [],[],H,_,_=>⟨H,rfl⟩
 | [],_::_,H,h,_=>by simp at h
 | _::_,[],H,h,_=>by simp at h
 | id::ids,c::cls,H,h,hr=>by
   obtain⟨z,h0⟩:=hr 0 id c rfl rfl;have h1:=D6 (n:=k) h0 (List.length_map _) (AH c);obtain⟨H',h2⟩:=Od k ids cls (mark H id c.length) (by simpa using h) (fun n id' c' a b=>by
    obtain⟨z',h3⟩:=hr (n+1) id' c' (by simpa using a) (by simpa using b);exact Lz h3)
   refine⟨H',?_⟩;show fzL (fzJ (k+1)) (.ms id 2 c.length 0 c.length::clsAV ids cls) H=_;simp only[fzL,h1,h2];rfl
structure ClsOk (H:List MB) (ids:List Nat) (cls:List Spans):Prop where
 len:ids.length=cls.length
 out:H[2]?=some (.row 1 (clsAV ids cls) 0)
 rows:∀(n id:Nat) (c:Spans),ids[n]?=some id->cls[n]?=some c->H[id]?=some (.row 2 (c.map spanAV) 0)
 nodup:ids.Nodup
 high:∀ id∈ids,3<=id
theorem ClsOk.fz {H:List MB}{ids:List Nat}{cls:List Spans} (h:ClsOk H ids cls) {n:Nat} (hn:cls.length=n):∃ H',fz (.tup [.ms 2 1 n 0 n,I 0]) H=some (.tup [.sl false (cls.map setAV),I 0],H'):=by
 subst hn;have h0:getRow H 2=some (1,clsAV ids cls,0):=by unfold getRow;rw[h.out]
 obtain⟨H',h1⟩:=Od 4 ids cls (mark H 2 (0+cls.length)) h.len (fun n id c a b=>Lz (z:=0) (by unfold getRow;rw[h.rows n id c a b]));have hl:=CJ h.len;refine⟨H',?_⟩;unfold Ev.fz;rw[Og];have h2:fzA (fzJ 6) (.ms 2 1 cls.length 0 cls.length) H=some (.sl false (cls.map setAV),H'):=
  IU h0 hl (by omega) (by rw[List.drop_zero,take_of_length_le (by omega)];exact h1)
 simp only[fzL,h2];rfl
theorem ClsOk.put {H:List MB}{ids:List Nat}{cls:List Spans} (h:ClsOk H ids cls) {i:Nat} (hi:i<2) (x:MB):ClsOk (H.set i x) ids cls:=
 ⟨h.len,by rw[getElem?_set_ne (by omega)];exact h.out,fun n id c a b=>by
   have:=h.high id (zgc a);rw[getElem?_set_ne (by omega)];exact h.rows n id c a b,h.nodup,h.high⟩
theorem Np (x r:Int) (n:Nat) (h:r=2 ^ n):evBin .xor .u64 x r=some (U (xorW x n)):=by subst h;rfl
theorem Bf {k:IntKind}{a b:Int}:evBin .sub k a b=some (.int k (k.wrap (a-b))):=rfl
theorem BW {k:IntKind}{a b:Int}:evBin .add k a b=some (.int k (k.wrap (a+b))):=rfl
theorem BU {k:IntKind}{a b:Int}:evBin .gtr k a b=some (.bool (decide (a > b))):=rfl
theorem BV {k:IntKind}{a b:Int}:evBin .eql k a b=some (.bool (a==b)):=rfl
theorem Mb (n:Nat) (h:n<=1000000):evBin .quo .i64 (n:Int) 64=some (I ((n / 64:Nat):Int)):=by
 have:IntKind.i64.wrap ((n:Int).tdiv 64)=((n / 64:Nat):Int):=by
  have e:(n:Int).tdiv 64=((n / 64:Nat):Int):=rfl;rw[e,i64_in];omega
 show (if(64:Int)=0 then none else some (I (IntKind.i64.wrap ((n:Int).tdiv 64))))=_;rw[if_neg (by decide),this]
theorem Ma (n:Nat):evBin .rem .i64 (n:Int) 64=some (I ((n % 64:Nat):Int)):=by
 have:(n:Int).tmod 64=((n % 64:Nat):Int):=rfl;show (if(64:Int)=0 then none else some (I ((n:Int).tmod 64)))=_;rw[if_neg (by decide),this]
theorem Rk (n:Nat) (h:n<64):evShift .shl .u64 1 (n:Int)=some (U ((2:Int) ^ n)):=by
 have h1:min (n:Int).toNat IntKind.u64.bits=n:=by show min (n:Int).toNat 64=n;omega
 have h2:(2:Nat) ^ n<2 ^ 64:=Nat.pow_lt_pow_right (by omega) h;have h3:((2 ^ n:Nat):Int)<18446744073709551616:=by
  have h6:(2:Nat) ^ 64=18446744073709551616:=by decide
  rw[h6]at h2;omega
 rw[Int.natCast_pow]at h3;have h4:(0:Int)<=2 ^ n:=Int.pow_nonneg (by omega);have h5:IntKind.u64.wrap (2 ^ n)=2 ^ n:=Int.emod_eq_of_lt h4 h3;show (if(n:Int)<0 then none else some (U (IntKind.u64.wrap (1*2 ^ (min (n:Int).toNat IntKind.u64.bits)))))=_;rw[if_neg (by omega),h1,Int.one_mul,h5]
section split
variable (L:List Spans) (top:Int) (S:List (Int×Int)) (E:List Int)
structure XS where
 k:Nat
 j:Nat
 w:List Int
 ws:List (List Int)
 ids:List Nat
 H:List MB
def KK16:KK:=.flat 144 [some .u64,some .u64,some .u64,some .u64,some .u64,some .u64,some .u64,some .u64,some .u64,some .u64,some .u64,some .u64,some .u64,some .u64,some .u64,some .u64]
structure XI (k j:Nat) (w:List Int) (ws:List (List Int)) (ids:List Nat) (H:List MB):Prop where
 k_le:k<=E.length
 j_le:j<=S.length
 wr:WR w (par (S.take j))
 b0:H[0]?=some (.row 16 [wAV w] 0)
 b1:H[1]?=some (.mp KK16 (ent 0 ws))
 keys:ws.length=(firsts (colK L E top) k).length
 key:∀(n:Nat) (c:List Bool),(firsts (colK L E top) k)[n]?=some c->∃ w,ws[n]?=some w/\WR w fun s=>c.getD s false
 cls:ClsOk H ids (classesA (colK L E top) (pieceA E top) k)
 few:¬ tooBig (colK L E top) (pieceA E top) k
end split
theorem WR.len {w:List Int}{b:Nat->Bool} (h:WR w b):w.length=16:=h.1
theorem Iu (L:List Spans) (E:List Int) (top:Int) (k:Nat):(colK L E top k).length=L.length:=by simp[colK,colA]
theorem DF {L:List Spans}{E:List Int}{top:Int}{k:Nat}{c:List Bool} (h:c∈firsts (colK L E top) k):c.length=L.length:=by
 obtain⟨i,_,rfl⟩:=BB.1 h;exact Iu L E top i
theorem RI {c d:List Bool} (h:c.length=d.length) (hl:c.length<=1024) (he:∀ s,s<1024->c.getD s false=d.getD s false):c=d:=by
 refine List.ext_getElem? fun i=>?_;rcases lt_or_ge i c.length with h1|h1
 ·have:=he i (by omega);simp only[List.getD_eq_getElem?_getD]at this;rw[zga h1,zga (by omega)]at this |-
  simpa using this
 ·rw[List.getElem?_eq_none h1,List.getElem?_eq_none (by omega)]
theorem QM {w:List Int}{i:Nat} (h:i<w.length) (y:Int):List.take i (w.map U)++U y::List.drop (i+1) (w.map U)=(w.set i y).map U:=by
 rw[List.map_set,List.set_eq_take_append_cons_drop,if_pos (by simpa using h)]
theorem XI.tog {L:List Spans}{top:Int}{S:List (Int×Int)}{E:List Int}{k j s:Nat}{w:List Int}{ws:List (List Int)}{ids:List Nat}{H:List MB} (h:XI L top S E k j w ws ids H) {e:Int×Int} (he:S[j]?=some e) (hes:e.2=(s:Int)) (hs:s<1024) {x:Int} (hx:w[s / 64]?=some x) :
  XI L top S E k (j+1) (w.set (s / 64) (xorW x (s % 64))) ws ids (H.set 0 (.row 16 [wAV (w.set (s / 64) (xorW x (s % 64)))] 0)):=by
 have h1:=h.wr.tog hs hx;have h2:par (S.take (j+1))=fun i=>if i=s then !par (S.take j) i else par (S.take j) i:=by
  obtain⟨a,b⟩:=e;simp only at hes;rw[List.take_add_one,he,hes];exact Qc _ _ _
 have h0:=(zgb.1 h.b0).1;exact⟨h.k_le,(zgb.1 he).1,by rw[h2];exact h1,getElem?_set_self h0,by rw[getElem?_set_ne (by omega)];exact h.b1,h.keys,h.key,h.cls.put (by omega) _,h.few⟩
structure Upd (H H1:List MB) (id:Nat) (r:MB):Prop where
 at_:H1[id]?=some r
 len:H.length<=H1.length
 same:∀ i,i≠id->i<H.length->H1[i]?=H[i]?
theorem Sc {H:List MB}{id n:Nat}{O:Spans}{p:Int×Int} (hr:H[id]?=some (.row 2 (O.map spanAV) 0)) (hn:O.length=n) (h0:0<n) (hl:n<=1000000) (hO:∀ q∈O,q.2<=1114111) (hp:0<=p.1/\p.1<=p.2/\p.2<=1114111) (hq:∀ q∈O,0<=q.2) :
  ∃ H1,call Pg pol1 90 [.ms id 2 n 0 n,.agg [I p.1,I p.2]] H=some (.ms id 2 (addI O p).length 0 (addI O p).length,H1)/\Upd H H1 id (.row 2 ((addI O p).map spanAV) 0):=by
 have hlt:=(zgb.1 hr).1;refine⟨_,sf68 hr hn h0 hl hO hp hq,?_,by simp,fun i hi h=>?_⟩
 ·rw[getElem?_append_left (by rw[List.length_set];exact hlt),getElem?_set_self hlt]
 ·rw[getElem?_append_left (by rw[List.length_set];exact h),getElem?_set_ne (Ne.symm hi)]
theorem QO (H:List MB) (p:Int×Int):∃ H1,call Pg pol1 90 [.sl true [],.agg [I p.1,I p.2]] H=some (.ms (H.length+1) 2 1 0 1,H1)/\Upd H H1 (H.length+1) (.row 2 ([p].map spanAV) 0):=by
 refine⟨_,Tw H p,?_,by simp,fun i hi h=>?_⟩
 ·rw[append_assoc,List.getElem?_append_right (by omega)];simp
 ·rw[append_assoc,getElem?_append_left h]
theorem ClsOk.upd {H H1:List MB}{ids:List Nat}{cls:List Spans} (h:ClsOk H ids cls) {n id:Nat}{c:Spans} (hn:ids[n]?=some id) (hu:Upd H H1 id (.row 2 (c.map spanAV) 0)) :
  ClsOk (H1.set 2 (.row 1 ((clsAV ids cls).set n (.ms id 2 c.length 0 c.length)) 0)) ids (cls.set n c):=by
 have hid:=h.high id (zgc hn);have h2:=(zgb.1 h.out).1;have hl:=hu.len;refine⟨by rw[List.length_set];exact h.len,?_,fun m id' c' a b=>?_,h.nodup,h.high⟩
 ·rw[getElem?_set_self (by omega),Pz hn]
 ·have hid':=h.high id' (zgc a);rw[getElem?_set_ne (by omega)];rw[List.getElem?_set]at b;by_cases e:n=m
  ·subst e;rw[hn]at a;obtain rfl:=Option.some.inj a;rw[if_pos rfl]at b;split at b
   ·rw[<- Option.some.inj b];exact hu.at_
   ·cases b
  ·rw[if_neg e]at b;have hne:id'≠id:=fun e2=>by
    obtain⟨l1,q1⟩:=zgb.1 hn;obtain⟨l2,q2⟩:=zgb.1 a;have hnd:=List.pairwise_iff_getElem.1 h.nodup;rcases Nat.lt_or_gt_of_ne e with h4|h4
    ·exact hnd n m l1 l2 h4 (q1.trans (e2.symm.trans q2.symm))
    ·exact hnd m n l2 l1 h4 (q2.trans (e2.trans q1.symm))
   have hr:=h.rows m id' c' a b;rw[hu.same id' hne (zgb.1 hr).1];exact hr
theorem ClsOk.new {H Hb Hc:List MB}{ids:List Nat}{cls:List Spans} (h:ClsOk H ids cls) {x y:MB}{p:Int×Int} (hb:Hb=(H.set 1 x).set 2 y) (hu:Upd Hb Hc (Hb.length+1) (.row 2 ([p].map spanAV) 0)) :
  ClsOk (Hc.set 2 (.row 1 ((clsAV ids cls++[AV.sl true []]).set cls.length (.ms (Hb.length+1) 2 1 0 1)) 0)) (ids++[Hb.length+1]) (cls++[[p]]):=by
 have hbl:Hb.length=H.length:=by rw[hb];simp
 have h2:=(zgb.1 h.out).1;have hl:=hu.len;have hids:∀ id∈ids,id<H.length:=fun id hid=>by
  obtain⟨n,hn⟩:=getElem?_of_mem hid;have h3:=(zgb.1 hn).1;obtain⟨c,hc⟩:∃ c,cls[n]?=some c:=⟨_,zga (by rw[<- h.len];exact h3)⟩;exact(zgb.1 (h.rows n id c hn hc)).1
 refine⟨by simp[h.len],?_,fun m id c a b=>?_,?_,?_⟩
 ·rw[getElem?_set_self (by omega),Nx h.len];congr 2;rw[List.set_append_right _ _ (by rw[CJ h.len];exact le_refl _),CJ h.len];simp
 ·rcases lt_or_ge m ids.length with h3|h3
  ·rw[getElem?_append_left h3]at a;rw[getElem?_append_left (by rw[<- h.len];exact h3)]at b;have hid:=h.high id (zgc a);have hr:=h.rows m id c a b;have hlt:=hids id (zgc a);rw[getElem?_set_ne (by omega),hu.same id (by omega) (by omega),hb,getElem?_set_ne (by omega),getElem?_set_ne (by omega)];exact hr
  ·have hm:m=ids.length:=by
    have:=(zgb.1 a).1;simp at this;omega
   subst hm;rw[List.getElem?_append_right (le_refl _),sub_self]at a;rw[h.len,List.getElem?_append_right (le_refl _),sub_self]at b;simp at a b;rw[<- a,<- b,getElem?_set_ne (by omega)];exact hu.at_
 ·exact List.nodup_append.2 ⟨h.nodup,by simp,fun a ha b hb2 e=>by
   have:=hids a ha;rw[mem_singleton.1 hb2]at e;omega⟩
 ·intro id hid;rcases mem_append.1 hid with h3|h3
  ·exact h.high id h3
  ·rw[mem_singleton.1 h3];omega
section rounds
variable {L:List Spans}{top:Int}{S:List (Int×Int)}{E:List Int}{k j:Nat}{w:List Int}{ws:List (List Int)}{ids:List Nat}{H:List MB}
theorem XI.old (h:XI L top S E k j w ws ids H) (hk:k<E.length) {n id:Nat} (hn:(firsts (colK L E top) k)[n]?=some (colK L E top k)) (hid:ids[n]?=some id) {H1:List MB}
  (hu:Upd H H1 id (.row 2 ((addI (clsOf (colK L E top) (pieceA E top) (colK L E top k) k) (pieceA E top k)).map spanAV) 0)) (h64:¬ 64<(addI (clsOf (colK L E top) (pieceA E top) (colK L E top k) k) (pieceA E top k)).length) :
  XI L top S E (k+1) j w ws ids (H1.set 2 (.row 1 ((clsAV ids (classesA (colK L E top) (pieceA E top) k)).set n (.ms id 2 (addI (clsOf (colK L E top) (pieceA E top) (colK L E top k) k) (pieceA E top k)).length 0 (addI (clsOf (colK L E top) (pieceA E top) (colK L E top k) k) (pieceA E top k)).length)) 0)):=by
 obtain⟨e1,e2,e3⟩:=Eh (pc:=pieceA E top) hn;have hid3:=h.cls.high id (zgc hid);have h0:=(zgb.1 h.b0).1;have h1:=(zgb.1 h.b1).1;refine⟨hk,h.j_le,h.wr,?_,?_,by rw[e1];exact h.keys,by rw[e1];exact h.key,by rw[e2];exact h.cls.upd hid hu,?_⟩
 ·rw[getElem?_set_ne (by omega),hu.same 0 (by omega) h0];exact h.b0
 ·rw[getElem?_set_ne (by omega),hu.same 1 (by omega) h1];exact h.b1
 ·rintro(h2|⟨c,hc,h2⟩)
  ·rw[e1]at h2;exact h.few (.inl h2)
  ·rw[e1]at hc;simp only[clsOf]at h2;split at h2
   ·rename_i e;subst e;exact h64 h2
   ·exact h.few (.inr ⟨c,hc,h2⟩)
theorem XI.new (h:XI L top S E k j w ws ids H) (hk:k<E.length) (hn:colK L E top k ∉ firsts (colK L E top) k) (hWk:WR w fun s=>(colK L E top k).getD s false) {Hb Hc:List MB}{y:MB}
  (hb:Hb=(H.set 1 (.mp KK16 (ent 0 (ws++[w])))).set 2 y) (hu:Upd Hb Hc (Hb.length+1) (.row 2 ([pieceA E top k].map spanAV) 0)) (hm:¬ 1024<(firsts (colK L E top) k).length+1) :
  XI L top S E (k+1) j w (ws++[w]) (ids++[Hb.length+1]) (Hc.set 2 (.row 1 ((clsAV ids (classesA (colK L E top) (pieceA E top) k)++[AV.sl true []]).set (firsts (colK L E top) k).length (.ms (Hb.length+1) 2 1 0 1)) 0)):=by
 obtain⟨e1,e2⟩:=Ei (pc:=pieceA E top) hn;have h0:=(zgb.1 h.b0).1;have h1:=(zgb.1 h.b1).1;have hbl:Hb.length=H.length:=by rw[hb];simp
 refine⟨hk,h.j_le,h.wr,?_,?_,by rw[e1];simp[h.keys],fun n c hc=>?_,?_,?_⟩
 ·rw[getElem?_set_ne (by omega),hu.same 0 (by omega) (by omega),hb,getElem?_set_ne (by omega),getElem?_set_ne (by omega)];exact h.b0
 ·rw[getElem?_set_ne (by omega),hu.same 1 (by omega) (by omega),hb,getElem?_set_ne (by omega),getElem?_set_self h1]
 ·rw[e1]at hc;rcases lt_or_ge n (firsts (colK L E top) k).length with h3|h3
  ·rw[getElem?_append_left h3]at hc;obtain⟨v,h4,h5⟩:=h.key n c hc;exact⟨v,by rw[getElem?_append_left (by rw[h.keys];exact h3)];exact h4,h5⟩
  ·have hm:n=(firsts (colK L E top) k).length:=by
    have:=(zgb.1 hc).1;simp at this;omega
   subst hm;rw[List.getElem?_append_right (le_refl _),sub_self]at hc;simp at hc;subst hc;exact⟨w,by rw[<- h.keys];simp,hWk⟩
 ·rw[e2];have:=h.cls.new hb hu;rw[BJ]at this;exact this
 ·rintro(h2|⟨c,hc,h2⟩)
  ·rw[e1,length_append]at h2;exact hm h2
  ·simp only[clsOf]at h2;split at h2
   ·rename_i e;rw[<- e,KQ hn,Do]at h2;simp at h2
   ·rename_i e;rw[e1]at hc;rcases mem_append.1 hc with h3|h3
    ·exact h.few (.inr ⟨c,h3,h2⟩)
    ·exact e (mem_singleton.1 h3).symm
theorem XI.find (h:XI L top S E k j w ws ids H) (hl:L.length<=1024) (hWk:WR w fun s=>(colK L E top k).getD s false) {n:Nat} (hn:(firsts (colK L E top) k)[n]?=some (colK L E top k)):findMp (wAV w) (ent 0 ws)=some (I n):=by
 obtain⟨v,h1,h2⟩:=h.key n _ hn;have hv:v=w:=h2.uniq hWk fun j _=>rfl;subst hv;rw[MS h1,zero_add];intro m hm;have hml:m<(firsts (colK L E top) k).length:=by rw[<- h.keys];exact(zgb.1 hm).1
 obtain⟨c,hc⟩:∃ c,(firsts (colK L E top) k)[m]?=some c:=⟨_,zga hml⟩;obtain⟨v',h3,h4⟩:=h.key m c hc;rw[hm]at h3;obtain rfl:=Option.some.inj h3;have hce:c=colK L E top k:=RI (by rw[DF (zgc hc),Iu]) (by rw[DF (zgc hc)];exact hl) fun s hs=>h4.inj hWk hs;rw[hce]at hc;obtain⟨l1,q1⟩:=zgb.1 hc;obtain⟨l2,q2⟩:=zgb.1 hn;have hnd:=List.pairwise_iff_getElem.1 (Bm (col:=colK L E top) k);rcases Nat.lt_trichotomy m n with h5|h5|h5
 ·exact absurd (q1.trans q2.symm) (hnd m n l1 l2 h5)
 ·exact h5
 ·exact absurd (q2.trans q1.symm) (hnd n m l2 l1 h5)
theorem XI.none (h:XI L top S E k j w ws ids H) (hl:L.length<=1024) (hWk:WR w fun s=>(colK L E top k).getD s false) (hn:colK L E top k ∉ firsts (colK L E top) k):w ∉ ws:=by
 intro hw;obtain⟨m,hm⟩:=getElem?_of_mem hw;have hml:m<(firsts (colK L E top) k).length:=by rw[<- h.keys];exact(zgb.1 hm).1
 obtain⟨c,hc⟩:∃ c,(firsts (colK L E top) k)[m]?=some c:=⟨_,zga hml⟩;obtain⟨v',h3,h4⟩:=h.key m c hc;rw[hm]at h3;obtain rfl:=Option.some.inj h3;have hce:c=colK L E top k:=RI (by rw[DF (zgc hc),Iu]) (by rw[DF (zgc hc)];exact hl) fun s hs=>h4.inj hWk hs;exact hn (by rw[<- hce];exact zgc hc)
end rounds
theorem Nw {E:List Int}{top:Int} (he:EndsOk top E) (col:Nat->List Bool) (c:List Bool):∀ {n:Nat},n<=E.length->∀ q∈clsOf col (pieceA E top) c n,0<=q.2/\q.2<=top
 | 0,_,q,h=>by simp[clsOf]at h
 | n+1,hn,q,h=>by
   have ih:=Nw he col c (n:=n) (by omega);have st:=he.step (k:=n) (by omega);simp only[clsOf]at h;split at h
   ·have hp:0<=(pieceA E top n).2/\(pieceA E top n).2<=top:=by simp only[pieceA];omega
    rcases List.eq_nil_or_concat (clsOf col (pieceA E top) c n) with e|⟨O,r,e⟩
    ·rw[e,Do]at h;rw[mem_singleton.1 h];exact hp
    ·rw[List.concat_eq_append]at e;rw[e]at ih h;rw[CP]at h;split at h
     ·rcases mem_append.1 h with h|h
      ·exact ih q (by simp[h])
      ·rw[mem_singleton.1 h];have:=ih r (by simp);simp only;omega
     ·rcases mem_append.1 h with h|h
      ·exact ih q h
      ·rw[mem_singleton.1 h];exact hp
   ·exact ih q h
theorem sf34 (L:List Spans) (top:Int) (h0:0<=top) (htp:top<=1114111) (hs:∀ s∈L,SetV s) (hv:∀ s∈L,refSpans s=0) (hl:L.length<=8192) (hsl:∀ s∈L,s.length<=64) (H:List MB) :
  call Pg pol1 41 [.sl false (L.map setAV),I top] H=some (if 1024<L.length then splitR none else splitR (splitA L (endsR L top) top),H):=by
 have hpl:=Ak L;have h67:=sf67 L top h0 htp hs hl hsl;have h66:∀ s∈L,∀ H,call Pg pol1 88 [setAV s] H=some (I 0,H):=fun s hm H=>by
  rw[f121 s (by have:=hsl s hm;omega) H,hv s hm]
 refine AQ Tryz.func41 rfl rfl rfl rfl rfl rfl (fun _=>rfl) (by simp[AV.plain,AV.plainL,hpl]) (by
  split
  ·rfl
  ·cases splitA L (endsR L top) top with
   | none=>rfl
   | some c=>simp[splitR,AV.plain,AV.plainL,Ak]) ?_ H
 simp +contextual (disch:=omega) only[Tryz.f41,dd41,go_sem,simprocAttr,evAppend,evBin,AV.cells,mu41];refine AS (M:=(Ms 41 2)) rfl L.length (fun i=>(⟨123,[(19,I i),(18,I L.length),(17,.sl false (L.map setAV)),(1,I top),(0,.sl false (L.map setAV))],[]⟩:St)) (fun i=>True) ?_ ?_ trivial _ (by first|rfl|(refine AO rfl (by rfl) (by rfl) (by rfl) ?_ ?_<;>simp[AV.underL,AV.under,MB.under,AG,AJ,AF,AH,AK,AM,-map_take,Ak]))
 ·intro i hi _;obtain⟨s,hsi⟩:∃ s,L[i]?=some s:=⟨_,zga hi⟩;have hsi':(L.map setAV)[i]?=some (setAV s):=by simp[hsi]
  have h:=h66 s (zgc hsi);simp +contextual (disch:=omega) only[Tryz.f41,dd41,go_sem,simprocAttr,evAppend,evBin,AV.cells,mu41,hsi',h];exact(by first|rfl|(refine AO rfl (by rfl) (by rfl) (by rfl) ?_ ?_<;>simp[AV.underL,AV.under,MB.under,AG,AJ,AF,AH,AK,AM,-map_take,Ak]))
 ·intro _;by_cases hbig:1024<L.length
  ·rw[if_pos hbig];simp +contextual (disch:=omega) only[Tryz.f41,dd41,go_sem,simprocAttr,evAppend,evBin,AV.cells,mu41];exact⟨_,rfl⟩
  ·rw[if_neg hbig];have hE:=C0 h0 hs;have hmem:=fun x=>Ey (top:=top) h0 hs (x:=x);have hsm:=If htp hs;have hsc:ScanOk L top (sortE (endsP top 0 L)) (endsR L top):=⟨hs,h0,by omega,Dt hsm,Ds _,hE,hmem⟩;have hSl:=Du hsm;have hPl:=E0 (top:=top) (L:=L) (i:=0) hsl;have hEl:=Gh h0 hs hsl;generalize endsR L top=E at *;generalize sortE (endsP top 0 L)=S at *;have hpe:=Bk S;have hrow0:List.replicate 16 (0:Int)=[0,0,0,0,0,0,0,0,0,0,0,0,0,0,0,0]:=rfl;simp +contextual (disch:=omega) only[Tryz.f41,dd41,go_sem,simprocAttr,evAppend,evBin,AV.cells,mu41,h67]
   refine BR (σ:=XS) (M:=(Ms 41 17)) rfl (fun x=>(⟨123,[(13,I (lastP E top x.k)),(12,.ms 2 1 (firsts (colK L E top) x.k).length 0 (firsts (colK L E top) x.k).length),(11,.mpr 1),(10,.rf 0 1 0 0),(9,.sl false ((S.drop x.j).map el2)),(1,I top)],x.H⟩:St))
    (fun x=>XI L top S E x.k x.j x.w x.ws x.ids x.H/\From S x.j (lastP E top x.k)) (fun x=>E.length-x.k)
    ⟨0,0,List.replicate 16 0,[],[],[.row 16 [wAV (List.replicate 16 0)] 0,.mp KK16 [],.row 1 [] 0]⟩ ?_ ⟨⟨zero_le _,zero_le _,WR.zero,rfl,rfl,rfl,fun n c h=>by simp[firsts]at h,⟨rfl,rfl,fun n id c h=>by simp at h,.nil,fun id h=>by simp at h⟩,by rintro(h|⟨c,h,_⟩)<;>simp[firsts]at h⟩,by rw[show lastP E top 0=0 from BD hE.first];exact From.zero hsc⟩ _ ?_
   ·rintro⟨k,j,w,ws,ids,H⟩ ⟨hi,hfr⟩;simp only at hi hfr |-;by_cases hk:k<E.length
    ·have hst:=hE.step hk;simp +contextual (disch:=omega) only[Tryz.f41,dd41,go_sem,simprocAttr,evAppend,evBin,AV.cells,mu41]
     refine BR (σ:=XS) (M:=(Ms 41 18)) rfl (fun x=>(⟨123,[(13,I (lastP E top k)),(12,.ms 2 1 (firsts (colK L E top) k).length 0 (firsts (colK L E top) k).length),(11,.mpr 1),(10,.rf 0 1 0 0),(9,.sl false ((S.drop x.j).map el2)),(1,I top)],x.H⟩:St))
      (fun x=>XI L top S E k x.j x.w ws ids x.H/\Mid S x.j (lastP E top k)) (fun x=>S.length-x.j)
      ⟨k,j,w,ws,ids,H⟩ ?_ ⟨hi,hfr.mid⟩ _ (by first|rfl|(refine AO rfl (by rfl) (by rfl) (by rfl) ?_ ?_<;>simp[AV.underL,AV.under,MB.under,AG,AJ,AF,AH,AK,AM,-map_take,Ak]))
     rintro⟨_,j,w,_,_,H⟩ ⟨hi,hmid⟩;simp only at hi hmid |-;by_cases hend:∃ e,S[j]?=some e/\e.1=lastP E top k
     ·obtain⟨e,he,hat⟩:=hend;have hjl:=(zgb.1 he).1;obtain⟨⟨s,hes,hsl1⟩,_⟩:=hsc.at he;have hdl:(S.drop j).map el2=.agg [I (lastP E top k),I s]::(S.drop (j+1)).map el2:=by
       rw[List.drop_eq_getElem_cons hjl,(zgb.1 he).2,map_cons];simp only[el2,hat,hes]
      obtain⟨x,hx1,hx2,_⟩:=hi.wr.2 (s / 64) (by omega);have hx':(w.map U)[s / 64]?=some (U x):=by simp[hx1]
      have hw16:=hi.wr.1;have hb0:=hi.b0;have q1:=Mb s (by omega);have q2:=Ma s;have q3:=Rk (s % 64) (by omega);have q4:=Np x (2 ^ (s % 64)) (s % 64) rfl;rw[hdl];simp +contextual (disch:=omega) only[Tryz.f41,dd41,go_sem,simprocAttr,evAppend,AV.cells,mu41,BU,BV,q1,q2,q3,q4,hb0,hx'];rw[QM (by omega)];refine⟨by unfold dOk;kernel_rfl,by kernel_rfl,all_eq_true.2 fun y hy=>?_,⟨k,j+1,w.set (s / 64) (xorW x (s % 64)),ws,ids,H.set 0 (.row 16 [wAV (w.set (s / 64) (xorW x (s % 64)))] 0)⟩,⟨hi.tog he hes (by omega) hx1,hmid.step he hat⟩,by show S.length-(j+1)<S.length-j;omega,?_⟩
      ·obtain⟨z,_,rfl⟩:=mem_map.1 hy;rfl
      ·rw[take_of_length_le (by simp)];rfl
     ·have hpast:=hmid.past hsc.sorted fun e he h=>hend ⟨e,he,h⟩;obtain⟨hnx,hfr2⟩:=Past.next hsc hk hpast;have hpar:=fun s=>Past.par hsc (show lastP E top k<=top by omega) hpast s;have hWk:WR w fun s=>(colK L E top k).getD s false:=hi.wr.congr fun s _=>hpar s;have hb0:=hi.b0;have hb1:H[1]?=some (.mp (.flat 144 [some .u64,some .u64,some .u64,some .u64,some .u64,some .u64,some .u64,some .u64,some .u64,some .u64,some .u64,some .u64,some .u64,some .u64,some .u64,some .u64]) (ent 0 ws)):=hi.b1;have hout:=hi.cls.out;have hw16:=hi.wr.1;have hko:=SN hw16;have htk:List.take 16 (w.map U)=w.map U:=take_of_length_le (by simp[hw16]);have hcellW:(wAV w).cells=w.map U:=rfl;have hcellM:∀ a b c d e,(AV.ms a b c d e).cells=[.ms a b c d e]:=fun _ _ _ _ _=>rfl;have hcellE:∀ a b:Int,(AV.agg [I a,I b]).cells=[I a,I b]:=fun _ _=>rfl;have hcellI:∀ k n,(AV.int k n).cells=[.int k n]:=fun _ _=>rfl;have hfw:(firsts (colK L E top) k).length<=1024:=by
       have:=hi.few;exact Nat.le_of_not_lt fun h=>this (.inl h)
      cases hSj:S[j]? with
      | none=>
        have hd:S.drop j=[]:=List.drop_eq_nil_of_le (List.getElem?_eq_none_iff.1 hSj);rw[hSj]at hnx;simp only at hnx;rw[hd];obtain⟨la,hla⟩:∃ la,la=top:=⟨_,rfl⟩;have hpcx:pieceA E top k=(lastP E top k,top):=by simp only[pieceA,hnx];congr 1;omega
        have hat2:IntKind.i64.wrap (top+1)=lastP E top (k+1):=by rw[i64_in]<;>omega
        by_cases hold:colK L E top k∈firsts (colK L E top) k
        ·obtain⟨n,hn⟩:=getElem?_of_mem hold;have hnl:=(zgb.1 hn).1;obtain⟨e1,e2,e3⟩:=Eh (pc:=pieceA E top) hn;have hf:=hi.find (by omega) hWk hn;obtain⟨id,hid⟩:∃ id,ids[n]?=some id:=⟨_,zga (by rw[hi.cls.len,BJ];exact hnl)⟩;have hrow:=hi.cls.rows n id _ hid e3;have hCl:(clsAV ids (classesA (colK L E top) (pieceA E top) k)).length=(firsts (colK L E top) k).length:=by rw[CJ hi.cls.len,BJ]
         have hCn:=Mn hid e3;have hcpos:=Gk (pc:=pieceA E top) hold;have hc64:¬ 64<(clsOf (colK L E top) (pieceA E top) (colK L E top k) k).length:=fun h=>hi.few (.inr ⟨_,hold,h⟩);have hin:=Nw hE (colK L E top) (colK L E top k) (n:=k) (by omega);obtain⟨H1,h68,hu⟩:=Sc (p:=pieceA E top k) hrow rfl hcpos (by omega) (fun q hq=>by have:=(hin q hq).2;omega) (by rw[hpcx];exact⟨by simp only;omega,by simp only;omega,by simp only;omega⟩) (fun q hq=>(hin q hq).1);have hnew:=fun h64=>hi.old hk hn hid hu h64;have hbadk:=fun h64:64<(addI (clsOf (colK L E top) (pieceA E top) (colK L E top k) k) (pieceA E top k)).length=>B8 (L:=L) (E:=E) (top:=top) (n:=k+1) (by omega) (.inr ⟨colK L E top k,by rw[e1];exact hold,by simp only[clsOf,if_true];exact h64⟩);have hid3:=hi.cls.high id (zgc hid);have h2l:=(zgb.1 hout).1;have hout1:H1[2]?=some (.row 1 (clsAV ids (classesA (colK L E top) (pieceA E top) k)) 0):=by rw[hu.same 2 (by omega) h2l];exact hout
         have hset:=fun y:MB=>getElem?_set_self (a:=y) (show 2<H1.length by have:=hu.len;omega);rw[hpcx]at h68;simp only at h68;rw[<- hpcx]at h68;generalize (addI (clsOf (colK L E top) (pieceA E top) (colK L E top k) k) (pieceA E top k)).length=m at *;generalize (clsOf (colK L E top) (pieceA E top) (colK L E top k) k).length=c at *;have hCs:∀ v:AV,((clsAV ids (classesA (colK L E top) (pieceA E top) k)).set n v)[n]?=some v:=fun v=>getElem?_set_self (by rw[hCl];exact hnl);generalize clsAV ids (classesA (colK L E top) (pieceA E top) k)=C at *;by_cases h64:64<m
         ·rw[hbadk h64];simp +contextual (disch:=omega) only[Tryz.f41,dd41,go_sem,simprocAttr,evAppend,mu41,hd,BU,BV,BW,Bf,hb0,hb1,htk,hw16,hko,hf,hout,hCl,hCn,h68,hout1,hset,hCs,List.length_set,hcellW,hcellM,hcellI,hcellE,hfw];exact⟨_,rfl⟩
         ·simp +contextual (disch:=omega) only[Tryz.f41,dd41,go_sem,simprocAttr,evAppend,mu41,hd,BU,BV,BW,Bf,hb0,hb1,htk,hw16,hko,hf,hout,hCl,hCn,h68,hout1,hset,hCs,List.length_set,hcellW,hcellM,hcellI,hcellE,hat2,hfw];refine⟨⟨k+1,j,w,ws,ids,_⟩,⟨hnew h64,hfr2⟩,by show E.length-(k+1)<E.length-k;omega,?_⟩;simp only[e1];rw[hd];rfl
        ·have e1:=(Ei (pc:=pieceA E top) hold).1;have hN1:(firsts (colK L E top) (k+1)).length=(firsts (colK L E top) k).length+1:=by rw[e1];simp
         have hww:=hi.none (by omega) hWk hold;have hf:=GZ (i:=0) hww;have hup:=KY (i:=0) hww;rw[zero_add,hi.keys]at hup;have hCl:(clsAV ids (classesA (colK L E top) (pieceA E top) k)).length=(firsts (colK L E top) k).length:=by rw[CJ hi.cls.len,BJ]
         have h2l:=(zgb.1 hout).1;have hg2:getRow (H.set 1 (.mp KK16 (ent 0 (ws++[w])))) 2=some (1,clsAV ids (classesA (colK L E top) (pieceA E top) k),0):=by
          unfold getRow;rw[getElem?_set_ne (by omega),hout]
         obtain⟨Hb,hHb⟩:∃ Hb,Hb=(H.set 1 (.mp KK16 (ent 0 (ws++[w])))).set 2 (.row 1 (clsAV ids (classesA (colK L E top) (pieceA E top) k)++[AV.sl true []]) 0):=⟨_,rfl⟩;have ha:∀ t,evAppend Pg (H.set 1 (.mp (.flat 144 [some .u64,some .u64,some .u64,some .u64,some .u64,some .u64,some .u64,some .u64,some .u64,some .u64,some .u64,some .u64,some .u64,some .u64,some .u64,some .u64]) (ent 0 (ws++[w])))) 38 38 (.ms 2 1 (firsts (colK L E top) k).length 0 (firsts (colK L E top) k).length) (.sl t [.sl true []])=some (.ms 2 1 ((firsts (colK L E top) k).length+1) 0 ((firsts (colK L E top) k).length+1),Hb):=fun t=>by
          have hs:srcElems Pg (H.set 1 (.mp KK16 (ent 0 (ws++[w])))) 23 (.sl t [.sl true []])=some [.sl true []]:=rfl;have:=Ag (sT:=38) (xT:=38) (e:=23) (by kernel_rfl) (by kernel_rfl) (k:=1) (by kernel_rfl) (by_:=24) (by kernel_rfl) (ze:=.sl true []) (by kernel_rfl) rfl (by omega) hs (by simp[AV.cells,AV.ok]) hg2 hCl (zero_le _) (AW (by simp;omega) (by omega));rw[hHb];exact this
         have hb2:Hb[2]?=some (.row 1 (clsAV ids (classesA (colK L E top) (pieceA E top) k)++[AV.sl true []]) 0):=by rw[hHb];exact getElem?_set_self (by simpa using h2l)
         obtain⟨Hc,h68,hu⟩:=QO Hb (pieceA E top k);have hbl:Hb.length=H.length:=by rw[hHb];simp
         have hc2:Hc[2]?=some (.row 1 (clsAV ids (classesA (colK L E top) (pieceA E top) k)++[AV.sl true []]) 0):=by rw[hu.same 2 (by omega) (by omega)];exact hb2
         have hset:=fun y:MB=>getElem?_set_self (a:=y) (show 2<Hc.length by have:=hu.len;omega);have hnew:=fun hm=>hi.new hk hold hWk hHb hu hm;have hbadk:=fun hm:1024<(firsts (colK L E top) k).length+1=>B8 (L:=L) (E:=E) (top:=top) (n:=k+1) (by omega) (.inl (by rw[e1,length_append];exact hm));rw[hpcx]at h68;simp only at h68;generalize (firsts (colK L E top) k).length=N at *;generalize hCC:clsAV ids (classesA (colK L E top) (pieceA E top) k)=C at *;have hCn:(C++[AV.sl true []])[N]?=some (AV.sl true []):=by rw[<- hCl];simp
         have hCl2:(C++[AV.sl true []]).length=N+1:=by simp[hCl]
         have hCs:∀ v:AV,((C++[AV.sl true []]).set N v)[N]?=some v:=fun v=>getElem?_set_self (by rw[hCl2];omega);have hCsl:∀ v:AV,((C++[AV.sl true []]).set N v).length=N+1:=fun v=>by rw[List.length_set];exact hCl2
         generalize C++[AV.sl true []]=C2 at *;have hcellN:(AV.sl true []).cells=[.sl true []]:=rfl;by_cases hm:1024<N+1
         ·rw[hbadk hm];simp +contextual (disch:=omega) only[Tryz.f41,dd41,go_sem,simprocAttr,mu41,hd,BU,BV,BW,Bf,hb0,hb1,htk,hw16,hko,hf,hup,hout,ha,hb2,hc2,hCn,hCl2,hCs,hCsl,h68,hset,List.length_set,hcellW,hcellM,hcellI,hcellE,hcellN];exact⟨_,rfl⟩
         ·simp +contextual (disch:=omega) only[Tryz.f41,dd41,go_sem,simprocAttr,mu41,hd,BU,BV,BW,Bf,hb0,hb1,htk,hw16,hko,hf,hup,hout,ha,hb2,hc2,hCn,hCl2,hCs,hCsl,h68,hset,List.length_set,hcellW,hcellM,hcellI,hcellE,hcellN,hat2];refine⟨⟨k+1,j,w,ws++[w],ids++[Hb.length+1],_⟩,⟨hnew hm,hfr2⟩,by show E.length-(k+1)<E.length-k;omega,?_⟩;simp only[hN1];rw[hd];rfl
      | some e=>
        have hjl:=(zgb.1 hSj).1;have hdl:(S.drop j).map el2=.agg [I e.1,I e.2]::(S.drop (j+1)).map el2:=by
         rw[List.drop_eq_getElem_cons hjl,(zgb.1 hSj).2,map_cons];rfl
        have hne:e.1≠lastP E top k:=fun h=>hend ⟨e,hSj,h⟩;have hea:=(hsc.at hSj).2.2;have heg:=hpast.2 j e (le_refl _) hSj;have hwl:IntKind.i64.wrap (e.1-1)=e.1-1:=by rw[i64_in];omega
        rw[hSj]at hnx;simp only at hnx;rw[hdl];obtain⟨la,hla⟩:∃ la,la=(e.1-1):=⟨_,rfl⟩;have hpcx:pieceA E top k=(lastP E top k,(e.1-1)):=by simp only[pieceA,hnx]
        have hat2:IntKind.i64.wrap ((e.1-1)+1)=lastP E top (k+1):=by rw[i64_in]<;>omega
        by_cases hold:colK L E top k∈firsts (colK L E top) k
        ·obtain⟨n,hn⟩:=getElem?_of_mem hold;have hnl:=(zgb.1 hn).1;obtain⟨e1,e2,e3⟩:=Eh (pc:=pieceA E top) hn;have hf:=hi.find (by omega) hWk hn;obtain⟨id,hid⟩:∃ id,ids[n]?=some id:=⟨_,zga (by rw[hi.cls.len,BJ];exact hnl)⟩;have hrow:=hi.cls.rows n id _ hid e3;have hCl:(clsAV ids (classesA (colK L E top) (pieceA E top) k)).length=(firsts (colK L E top) k).length:=by rw[CJ hi.cls.len,BJ]
         have hCn:=Mn hid e3;have hcpos:=Gk (pc:=pieceA E top) hold;have hc64:¬ 64<(clsOf (colK L E top) (pieceA E top) (colK L E top k) k).length:=fun h=>hi.few (.inr ⟨_,hold,h⟩);have hin:=Nw hE (colK L E top) (colK L E top k) (n:=k) (by omega);obtain⟨H1,h68,hu⟩:=Sc (p:=pieceA E top k) hrow rfl hcpos (by omega) (fun q hq=>by have:=(hin q hq).2;omega) (by rw[hpcx];exact⟨by simp only;omega,by simp only;omega,by simp only;omega⟩) (fun q hq=>(hin q hq).1);have hnew:=fun h64=>hi.old hk hn hid hu h64;have hbadk:=fun h64:64<(addI (clsOf (colK L E top) (pieceA E top) (colK L E top k) k) (pieceA E top k)).length=>B8 (L:=L) (E:=E) (top:=top) (n:=k+1) (by omega) (.inr ⟨colK L E top k,by rw[e1];exact hold,by simp only[clsOf,if_true];exact h64⟩);have hid3:=hi.cls.high id (zgc hid);have h2l:=(zgb.1 hout).1;have hout1:H1[2]?=some (.row 1 (clsAV ids (classesA (colK L E top) (pieceA E top) k)) 0):=by rw[hu.same 2 (by omega) h2l];exact hout
         have hset:=fun y:MB=>getElem?_set_self (a:=y) (show 2<H1.length by have:=hu.len;omega);rw[hpcx]at h68;simp only at h68;rw[<- hpcx]at h68;generalize (addI (clsOf (colK L E top) (pieceA E top) (colK L E top k) k) (pieceA E top k)).length=m at *;generalize (clsOf (colK L E top) (pieceA E top) (colK L E top k) k).length=c at *;have hCs:∀ v:AV,((clsAV ids (classesA (colK L E top) (pieceA E top) k)).set n v)[n]?=some v:=fun v=>getElem?_set_self (by rw[hCl];exact hnl);generalize clsAV ids (classesA (colK L E top) (pieceA E top) k)=C at *;by_cases h64:64<m
         ·rw[hbadk h64];simp +contextual (disch:=omega) only[Tryz.f41,dd41,go_sem,simprocAttr,evAppend,mu41,hwl,BU,BV,BW,Bf,hb0,hb1,htk,hw16,hko,hf,hout,hCl,hCn,h68,hout1,hset,hCs,List.length_set,hcellW,hcellM,hcellI,hcellE,hfw];exact⟨_,rfl⟩
         ·simp +contextual (disch:=omega) only[Tryz.f41,dd41,go_sem,simprocAttr,evAppend,mu41,hwl,BU,BV,BW,Bf,hb0,hb1,htk,hw16,hko,hf,hout,hCl,hCn,h68,hout1,hset,hCs,List.length_set,hcellW,hcellM,hcellI,hcellE,hat2,hfw];refine⟨⟨k+1,j,w,ws,ids,_⟩,⟨hnew h64,hfr2⟩,by show E.length-(k+1)<E.length-k;omega,?_⟩;simp only[e1];rw[hdl];rfl
        ·have e1:=(Ei (pc:=pieceA E top) hold).1;have hN1:(firsts (colK L E top) (k+1)).length=(firsts (colK L E top) k).length+1:=by rw[e1];simp
         have hww:=hi.none (by omega) hWk hold;have hf:=GZ (i:=0) hww;have hup:=KY (i:=0) hww;rw[zero_add,hi.keys]at hup;have hCl:(clsAV ids (classesA (colK L E top) (pieceA E top) k)).length=(firsts (colK L E top) k).length:=by rw[CJ hi.cls.len,BJ]
         have h2l:=(zgb.1 hout).1;have hg2:getRow (H.set 1 (.mp KK16 (ent 0 (ws++[w])))) 2=some (1,clsAV ids (classesA (colK L E top) (pieceA E top) k),0):=by
          unfold getRow;rw[getElem?_set_ne (by omega),hout]
         obtain⟨Hb,hHb⟩:∃ Hb,Hb=(H.set 1 (.mp KK16 (ent 0 (ws++[w])))).set 2 (.row 1 (clsAV ids (classesA (colK L E top) (pieceA E top) k)++[AV.sl true []]) 0):=⟨_,rfl⟩;have ha:∀ t,evAppend Pg (H.set 1 (.mp (.flat 144 [some .u64,some .u64,some .u64,some .u64,some .u64,some .u64,some .u64,some .u64,some .u64,some .u64,some .u64,some .u64,some .u64,some .u64,some .u64,some .u64]) (ent 0 (ws++[w])))) 38 38 (.ms 2 1 (firsts (colK L E top) k).length 0 (firsts (colK L E top) k).length) (.sl t [.sl true []])=some (.ms 2 1 ((firsts (colK L E top) k).length+1) 0 ((firsts (colK L E top) k).length+1),Hb):=fun t=>by
          have hs:srcElems Pg (H.set 1 (.mp KK16 (ent 0 (ws++[w])))) 23 (.sl t [.sl true []])=some [.sl true []]:=rfl;have:=Ag (sT:=38) (xT:=38) (e:=23) (by kernel_rfl) (by kernel_rfl) (k:=1) (by kernel_rfl) (by_:=24) (by kernel_rfl) (ze:=.sl true []) (by kernel_rfl) rfl (by omega) hs (by simp[AV.cells,AV.ok]) hg2 hCl (zero_le _) (AW (by simp;omega) (by omega));rw[hHb];exact this
         have hb2:Hb[2]?=some (.row 1 (clsAV ids (classesA (colK L E top) (pieceA E top) k)++[AV.sl true []]) 0):=by rw[hHb];exact getElem?_set_self (by simpa using h2l)
         obtain⟨Hc,h68,hu⟩:=QO Hb (pieceA E top k);have hbl:Hb.length=H.length:=by rw[hHb];simp
         have hc2:Hc[2]?=some (.row 1 (clsAV ids (classesA (colK L E top) (pieceA E top) k)++[AV.sl true []]) 0):=by rw[hu.same 2 (by omega) (by omega)];exact hb2
         have hset:=fun y:MB=>getElem?_set_self (a:=y) (show 2<Hc.length by have:=hu.len;omega);have hnew:=fun hm=>hi.new hk hold hWk hHb hu hm;have hbadk:=fun hm:1024<(firsts (colK L E top) k).length+1=>B8 (L:=L) (E:=E) (top:=top) (n:=k+1) (by omega) (.inl (by rw[e1,length_append];exact hm));rw[hpcx]at h68;simp only at h68;generalize (firsts (colK L E top) k).length=N at *;generalize hCC:clsAV ids (classesA (colK L E top) (pieceA E top) k)=C at *;have hCn:(C++[AV.sl true []])[N]?=some (AV.sl true []):=by rw[<- hCl];simp
         have hCl2:(C++[AV.sl true []]).length=N+1:=by simp[hCl]
         have hCs:∀ v:AV,((C++[AV.sl true []]).set N v)[N]?=some v:=fun v=>getElem?_set_self (by rw[hCl2];omega);have hCsl:∀ v:AV,((C++[AV.sl true []]).set N v).length=N+1:=fun v=>by rw[List.length_set];exact hCl2
         generalize C++[AV.sl true []]=C2 at *;have hcellN:(AV.sl true []).cells=[.sl true []]:=rfl;by_cases hm:1024<N+1
         ·rw[hbadk hm];simp +contextual (disch:=omega) only[Tryz.f41,dd41,go_sem,simprocAttr,mu41,hwl,BU,BV,BW,Bf,hb0,hb1,htk,hw16,hko,hf,hup,hout,ha,hb2,hc2,hCn,hCl2,hCs,hCsl,h68,hset,List.length_set,hcellW,hcellM,hcellI,hcellE,hcellN];exact⟨_,rfl⟩
         ·simp +contextual (disch:=omega) only[Tryz.f41,dd41,go_sem,simprocAttr,mu41,hwl,BU,BV,BW,Bf,hb0,hb1,htk,hw16,hko,hf,hup,hout,ha,hb2,hc2,hCn,hCl2,hCs,hCsl,h68,hset,List.length_set,hcellW,hcellM,hcellI,hcellE,hcellN,hat2];refine⟨⟨k+1,j,w,ws++[w],ids++[Hb.length+1],_⟩,⟨hnew hm,hfr2⟩,by show E.length-(k+1)<E.length-k;omega,?_⟩;simp only[hN1];rw[hdl];rfl
    ·have hke:k=E.length:=by have:=hi.k_le;omega
     have hle:lastP E top k=top+1:=By (by omega);have hok:splitA L E top=some (classesA (colK L E top) (pieceA E top) k):=by
      rw[hke];exact GM (by rw[<- hke];exact hi.few)
     have hcl:=BJ (col:=colK L E top) (pc:=pieceA E top) k;obtain⟨H',hfin⟩:=hi.cls.fz hcl;rw[hok,hle];simp +contextual (disch:=omega) only[Tryz.f41,dd41,go_sem,simprocAttr,evAppend,evBin,AV.cells,mu41];exact⟨H',hfin⟩
   ·simp only[BD hE.first,List.drop_zero,firsts,length_nil];rfl
end
section
attribute [local go_sem] evBin AV.cells
def bothW (a b:AutoL):Int:=if validW (dividesA a.cl) a≠0 then validW (dividesA a.cl) a else if validW (dividesA b.cl) b≠0 then validW (dividesA b.cl) b else if topZ a.cl.flatten≠topZ b.cl.flatten then 1 else 0
theorem f139 (a b:AutoL) (ha:AutoB a) (hb:AutoB b) (H:List MB):call Pg pol1 139 [autoAV a,autoAV b] H=some (I (bothW a b),H):=by
 have hpl:=AX a;have hpl2:=AX b;have h18a:=f18 a ha;have h18b:=f18 b hb;have hda:=@B7 a.cl;have hdb:=@B7 b.cl;refine AQ Tryz.func139 rfl rfl rfl rfl rfl rfl (fun _=>rfl) (by simp[AV.plainL,AV.plain,AP,AT,AN]) (by simp[AV.plain]) ?_ H;unfold bothW;simp +contextual (disch:=omega) only[Tryz.f139,Io,go_sem,simprocAttr,evAppend,map_append,IC];refine BR (σ:=Nat) (M:=(Ms 139 2)) rfl (fun i=>(⟨27,[(12,I i),(11,I 2),(10,.sl true [autoAV a,autoAV b]),(3,.rf 1 1 0 0),(2,.rf 0 1 0 0)],[.row 3 [autoAV a] 0,.row 3 [autoAV b] 0]⟩:St)) (fun i=>i<=2/\(1<=i->validW (dividesA a.cl) a=0)/\(2<=i->validW (dividesA b.cl) b=0)) (fun i=>2-i) 0 ?_ ⟨by omega,fun h=>by omega,fun h=>by omega⟩ _ (by first|rfl|(refine AO rfl (by rfl) (by rfl) (by rfl) ?_ ?_<;>simp[AV.underL,AV.under,MB.under,AG,AJ,AF,AH,AK,AM,-map_take,AP,AT,AN]));rintro i ⟨hi,h1,h2⟩;have hc:i=0∨i=1∨i=2:=by omega
 rcases hc with rfl|rfl|rfl
 ·by_cases hv:validW (dividesA a.cl) a=0
  ·rw[if_neg (by simp[hv])];rw[hv]at h18a;simp +contextual (disch:=omega) only[Tryz.f139,Io,go_sem,simprocAttr,evAppend,map_append,IC,h18a];exact⟨1,⟨by omega,fun _=>hv,fun h=>by omega⟩,by omega,(by first|rfl|(refine AO rfl (by rfl) (by rfl) (by rfl) ?_ ?_<;>simp[AV.underL,AV.under,MB.under,AG,AJ,AF,AH,AK,AM,-map_take,AP,AT,AN]))⟩
  ·rw[if_pos hv];simp +contextual (disch:=omega) only[Tryz.f139,Io,go_sem,simprocAttr,evAppend,map_append,IC,h18a,hv];exact fzEq rfl rfl
 ·have hva:=h1 (by omega);rw[if_neg (by simp[hva])];by_cases hv:validW (dividesA b.cl) b=0
  ·rw[if_neg (by simp[hv])];rw[hv]at h18b;simp +contextual (disch:=omega) only[Tryz.f139,Io,go_sem,simprocAttr,evAppend,map_append,IC,h18b];exact⟨2,⟨by omega,fun _=>hva,fun _=>hv⟩,by omega,(by first|rfl|(refine AO rfl (by rfl) (by rfl) (by rfl) ?_ ?_<;>simp[AV.underL,AV.under,MB.under,AG,AJ,AF,AH,AK,AM,-map_take,AP,AT,AN]))⟩
  ·rw[if_pos hv];simp +contextual (disch:=omega) only[Tryz.f139,Io,go_sem,simprocAttr,evAppend,map_append,IC,h18b,hv];exact fzEq rfl rfl
 ·have hva:=h1 (by omega);have hvb:=h2 (by omega);rw[if_neg (by simp[hva]),if_neg (by simp[hvb])];have ea:=(hda (A0 hva).2);have eb:=(hdb (A0 hvb).2);have h72a:=f72 a ha (fun s hs=>(ea.set s hs).2);have h72b:=f72 b hb (fun s hs=>(eb.set s hs).2);rw[ea.topL_eq.1]at h72a;rw[eb.topL_eq.1]at h72b;generalize topZ a.cl.flatten=ta at *;generalize topZ b.cl.flatten=tb at *;by_cases ht:ta=tb
  ·rw[if_neg (by simp[ht])];simp +contextual (disch:=omega) only[Tryz.f139,Io,go_sem,simprocAttr,evAppend,map_append,IC,h72a,h72b,ht];exact⟨by unfold dOk;kernel_rfl,fzEq rfl rfl⟩
  ·rw[if_pos ht];simp +contextual (disch:=omega) only[Tryz.f139,Io,go_sem,simprocAttr,evAppend,map_append,IC,h72a,h72b,ht];exact⟨by unfold dOk;kernel_rfl,fzEq rfl rfl⟩
theorem f182 (n:Nat) (h0:0<n) (hn:n<=1000000) (H:List MB):call Pg pol1 182 [.sl true [],NV n] H=some (.ms H.length 1 n 0 0,H++[.row 1 (List.replicate n (.sl true [])) 0]):=by
 have fr:frzArgs pol1 182 0 [.sl true [],NV n] H=some ([.sl true [],NV n],H):=BQ _ _ _ rfl;refine CK (pol:=pol1) Tryz.func182 rfl rfl rfl rfl fr ?_;have rp:∀ H1 r H,retPol pol1 182 H1 r H=some (r,H):=fun H1 r H=>rfl;have h23:tySz Pg 23=some 1:=by kernel_rfl
 have h24:tyBytes Pg 23=some 24:=by kernel_rfl
 have h25:tyZero Pg 23=some (.sl true []):=by kernel_rfl
 have h26:tyElem Pg 38=some 23:=by kernel_rfl
 have h27:tyInt Pg 3=some .i64:=by kernel_rfl
 have hroom:roomFor n 24=true:=AW (by omega) (by omega);have hz:evAppZ Pg H 38 3 (.sl true []) (.int .i64 ((n:Int)-0))=some (.ms H.length 1 n 0 n,H++[.row 1 (List.replicate n (.sl true [])) 0]):=by
  rw[Int.sub_zero];unfold evAppZ;simp only[h26,h27,h23,h24,h25];rw[if_pos ⟨by omega,by omega,by omega,by rfl⟩,Int.toNat_natCast];obtain⟨k,rfl⟩:∃ k,n=k+1:=⟨n-1,by omega⟩;have hall:(List.replicate (k+1) (AV.sl true [])).all (fun y=>decide (y.cells.length=1)&&y.cells.all AV.ok)=true:=by
   rw[all_eq_true];intro y hy;rw[List.eq_of_mem_replicate hy];rfl
  unfold appCore;rw[if_pos ⟨hall,by omega,rfl⟩];have hl:(List.replicate (k+1) (AV.sl true [])).length=k+1:=by simp
  generalize hR:List.replicate (k+1) (AV.sl true [])=R at *;cases R with
  | nil=>simp at hl
  | cons y R=>
    simp only[length_nil,zero_add,hl,hroom,List.all_nil,and_self,if_true,nil_append]
 have hcut:evSlice Pg (H++[.row 1 (List.replicate n (.sl true [])) 0]) 38 (.ms H.length 1 n 0 n) none (some (.int .i64 0)) none=some (.ms H.length 1 n 0 0,H++[.row 1 (List.replicate n (.sl true [])) 0]):=by
  simp[evSlice,h26,h23,bndO,bnd]
 simp +contextual (disch:=omega) only[Tryz.f182,Um,go_sem,simprocAttr,map_append,T8,h23,hz,hcut];rw[rp]
theorem O3 {H:List MB}{id tot len:Nat}{els:List AV}{X:Cls} (hr:getRow H id=some (1,els,0)) (hl:els.length=tot) (h:len+X.length<=tot) (ht:tot<=1000000) :
  evAppend Pg H 38 38 (.ms id 1 tot 0 len) (.sl false (X.map setAV9))=some (.ms id 1 tot 0 (len+X.length),H.set id (.row 1 (els.take len++(X.map setAV9++els.drop (len+X.length))) 0)):=by
 have h26:tyElem Pg 38=some 23:=by kernel_rfl
 have h27:tyNotInt Pg 38=true:=by kernel_rfl
 have h23:tySz Pg 23=some 1:=by kernel_rfl
 have h24:tyBytes Pg 23=some 24:=by kernel_rfl
 have h25:tyZero Pg 23=some (.sl true []):=by kernel_rfl
 have hs:srcElems Pg H 23 (.sl false (X.map setAV9))=some (X.map setAV9):=rfl;have hall:(X.map setAV9).all (fun y=>decide (y.cells.length=1)&&y.cells.all AV.ok)=true:=by
  rw[all_eq_true];intro y hy;obtain⟨s,_,rfl⟩:=mem_map.1 hy;rfl
 have hroom:roomFor (len+X.length) 24=true:=AW (by omega) (by omega);have hxl:(X.map setAV9).length=X.length:=by simp
 unfold evAppend;simp only[h26,h27,h23,h24,h25,hs];rw[if_pos ⟨hall,by omega,rfl⟩];simp only[hr];rw[if_pos ⟨hl,trivial,trivial,by omega⟩];generalize X.map setAV9=ys at *;cases ys with
 | nil=>
   have h0:X.length=0:=by rw[<- hxl];rfl
   have hid:=(zgb.1 (A4 hr)).1;simp only[h0,Nat.add_zero,nil_append,List.take_append_drop];congr 2;exact(set_self (A4 hr)).symm
 | cons y ys=>
   rw[hxl,zero_add,if_pos ⟨zero_le _,hroom⟩,if_pos h]
theorem GI (n k:Nat):AV.underL n (List.replicate k (.sl true []))=true:=by
 induction k with
 | zero=>rfl
 | succ k ih=>rw[List.replicate_succ];simp only[AV.underL,AV.under,ih,Bool.and_self]
def part (A B:Cls):Nat->Cls
 | 0=>[]
 | 1=>A
 | _=>A++B
theorem f140 (A B:Cls) (h0:0<A.length+B.length) (hn:A.length+B.length<=1000000) (H:List MB) :
  call Pg pol1 140 [.sl false [.sl false (A.map setAV9),.sl false (B.map setAV9)]] H=some (.sl false ((A++B).map setAV9),H):=by
 refine AQ Tryz.func140 rfl rfl rfl rfl rfl rfl (fun _=>rfl) (by simp[AV.plainL,AV.plain,AP]) (by have:=AP (A++B);simp only[AV.plain,this];rfl) ?_ H;simp +contextual (disch:=omega) only[Tryz.f140,Im,go_sem,simprocAttr,evAppend,map_append,IB];refine AS (M:=(Ms 140 3)) rfl 2 (fun i=>(⟨36,[(11,I i),(10,I 2),(9,.sl false [.sl false (A.map setAV9),.sl false (B.map setAV9)]),(3,.int .i64 ((part A B i).length:Nat)),(0,.sl false [.sl false (A.map setAV9),.sl false (B.map setAV9)])],[]⟩:St)) (fun i=>True) ?_ ?_ trivial _ (by first|rfl|(refine AO rfl (by rfl) (by rfl) (by rfl) ?_ ?_<;>simp[AV.underL,AV.under,MB.under,AG,AJ,AF,AH,AK,AM,-map_take,AP]))
 ·intro i hi _;rcases(by omega:i=0∨i=1) with rfl|rfl
  ·have e0:(part A B 0).length=0:=rfl;have e1:(part A B (0+1)).length=A.length:=rfl;rw[e0,e1];simp +contextual (disch:=omega) only[Tryz.f140,Im,go_sem,simprocAttr,evAppend,map_append,IB];rw[Int.zero_add];exact(by first|rfl|(refine AO rfl (by rfl) (by rfl) (by rfl) ?_ ?_<;>simp[AV.underL,AV.under,MB.under,AG,AJ,AF,AH,AK,AM,-map_take,AP]))
  ·have e0:(part A B 1).length=A.length:=rfl;have e1:(part A B (1+1)).length=A.length+B.length:=by simp[part]
   rw[e0,e1];have hw:IntKind.i64.wrap ((A.length:Int)+(B.length:Int))=((A.length+B.length:Nat):Int):=by rw[i64_in]<;>omega
   simp +contextual (disch:=omega) only[Tryz.f140,Im,go_sem,simprocAttr,evAppend,map_append,IB,hw];exact(by first|rfl|(refine AO rfl (by rfl) (by rfl) (by rfl) ?_ ?_<;>simp[AV.underL,AV.under,MB.under,AG,AJ,AF,AH,AK,AM,-map_take,AP]))
 ·intro _;have e0:(part A B 2).length=A.length+B.length:=by simp[part]
  rw[e0];have h182:=fun H=>f182 (A.length+B.length) h0 hn H;generalize hN:A.length+B.length=n at *;simp +contextual (disch:=omega) only[Tryz.f140,Im,go_sem,simprocAttr,evAppend,map_append,IB,h182];refine AS (M:=(Ms 140 11)) rfl 2 (fun i=>(⟨36,[(27,I i),(26,I 2),(25,.sl false [.sl false (A.map setAV9),.sl false (B.map setAV9)]),(6,.ms 0 1 n 0 (part A B i).length)],[.row 1 ((part A B i).map setAV9++List.replicate (n-(part A B i).length) (.sl true [])) 0]⟩:St)) (fun i=>True) ?_ ?_ trivial _ ?_
  ·intro i hi _;rcases(by omega:i=0∨i=1) with rfl|rfl
   ·have e0:part A B 0=[]:=rfl;have e1:part A B (0+1)=A:=rfl;rw[e0,e1];have a1:=O3 (H:=[.row 1 (([]:Cls).map setAV9++List.replicate (n-([]:Cls).length) (.sl true [])) 0]) (id:=0) (tot:=n) (len:=0) (X:=A) rfl (by simp) (by omega) (by omega);simp only[List.map_nil,nil_append,length_nil,Nat.sub_zero,List.take_zero,zero_add,List.drop_replicate,List.set_cons_zero]at a1 |-;generalize List.replicate n (AV.sl true [])=Z at *;simp +contextual (disch:=omega) only[Tryz.f140,Im,go_sem,simprocAttr,map_append,IB,a1];exact(by first|rfl|(refine AO rfl (by rfl) (by rfl) (by rfl) ?_ ?_<;>simp[AV.underL,AV.under,MB.under,AG,AJ,AF,AH,AK,AM,-map_take,AP,CQ,GI]))
   ·have e0:part A B 1=A:=rfl;have e1:part A B (1+1)=A++B:=rfl;rw[e0,e1];have a1:=O3 (H:=[.row 1 (A.map setAV9++List.replicate (n-A.length) (.sl true [])) 0]) (id:=0) (tot:=n) (len:=A.length) (X:=B) rfl (by simp;omega) (by omega) (by omega);have et:(A.map setAV9++List.replicate (n-A.length) (AV.sl true [])).take A.length=A.map setAV9:=by
     rw[List.take_append_of_le_length (by simp)];exact take_of_length_le (by simp)
    have ed:(A.map setAV9++List.replicate (n-A.length) (AV.sl true [])).drop (A.length+B.length)=List.replicate (n-(A++B).length) (AV.sl true []):=by
     rw[List.drop_append,List.drop_of_length_le (by simp),nil_append,List.drop_replicate];congr 1;simp;omega
    rw[et,ed,<- append_assoc,<- map_append]at a1;simp only[List.set_cons_zero]at a1;rw[show (A++B).length=A.length+B.length by simp]at a1 |-;generalize A.map setAV9++List.replicate (n-A.length) (AV.sl true [])=Z at *;simp +contextual (disch:=omega) only[Tryz.f140,Im,go_sem,simprocAttr,IB,a1];generalize A++B=C;exact(by first|rfl|(refine AO rfl (by rfl) (by rfl) (by rfl) ?_ ?_<;>simp[AV.underL,AV.under,MB.under,AG,AJ,AF,AH,AK,AM,-map_take,AP,CQ,GI]))
  ·intro _;rw[show part A B 2=A++B from rfl];have e0:(A++B).length=n:=by simp[hN]
   rw[e0,sub_self,List.replicate_zero,List.append_nil];generalize A++B=C at *;simp +contextual (disch:=omega) only[Tryz.f140,Im,go_sem,simprocAttr,evAppend,map_append,IB];exact⟨_,Av (z:=0) rfl (by simp[e0]) (AP _)⟩
  ·exact(by first|rfl|(refine AO rfl (by rfl) (by rfl) (by rfl) ?_ ?_<;>simp[AV.underL,AV.under,MB.under,AG,AJ,AF,AH,AK,AM,-map_take,AP,CQ,GI]))
end
section
variable {σ:Type} [DecidableEq σ]
structure Expl (m:Nat) (step:σ->Nat->σ) (first:σ) (L:List σ):Prop where
 inv:BInv (fun x=>(List.range m).map (step x)) L L.length 0
 l0:L[0]?=some first
def exDA (m:Nat) (step:σ->Nat->σ) (acc:σ->Bool) (cl:Int->Nat) (L:List σ):DA:=
 ⟨L.length,m,fun i c=>match L[i]? with
   | some x=>L.idxOf (step x c)
   | none=>0,fun i=>match L[i]? with
   | some x=>acc x
   | none=>false,cl⟩
def runT (step:σ->Nat->σ) (cl:Int->Nat):σ->List Int->σ
 | x,[]=>x
 | x,y::t=>runT step cl (step x (cl y)) t
variable {m:Nat}{step:σ->Nat->σ}{acc:σ->Bool}{first:σ}{cl:Int->Nat}{L:List σ}{top:Int}
theorem Expl.closed {σ':Type}{m:Nat}{step:σ'->Nat->σ'} {first:σ'} {L:List σ'} (h:Expl m step first L) {x:σ'} (hx:x∈L) {c:Nat} (hc:c<m):step x c∈L:=by
 obtain⟨i,hi,e⟩:=List.getElem_of_mem hx;obtain⟨v,hv,_⟩:=h.inv.grow i c (.inl hi) x (step x c) (by rw[zga hi,e]) (by simp[hc]);exact zgc hv
theorem Et {α:Type} [DecidableEq α] {l:List α}{x:α} (h:x∈l):l[l.idxOf x]?=some x:=by
 have h1:=List.idxOf_lt_length_of_mem h;rw[zga h1];simp
theorem IQ {α:Type} [DecidableEq α] {l:List α}{x:α}{i:Nat} (hn:l.Nodup) (h:l[i]?=some x):l.idxOf x=i:=by
 obtain⟨hi,e⟩:=zgb.1 h;rw[<- e];exact hn.idxOf_getElem i hi
theorem Expl.run (h:Expl m step first L) (hcl:∀ x,Sy top x->cl x<m):∀(w:List Int) (i:Nat) (x:σ),Tx top w->L[i]?=some x->L[(exDA m step acc cl L).run i w]?=some (runT step cl x w)
 | [],i,x,_,hi=>hi
 | y::w,i,x,hw,hi=>by
   have hc:=hcl y (hw y (by simp));have hm:=h.closed (zgc hi) hc;have e:(exDA m step acc cl L).nx i (cl y)=L.idxOf (step x (cl y)):=by
    show (match L[i]? with
     | some x=>L.idxOf (step x (cl y))
     | none=>0)=_
    rw[hi]
   show L[(exDA m step acc cl L).run ((exDA m step acc cl L).nx i (cl y)) w]?=some (runT step cl (step x (cl y)) w);rw[e];exact h.run hcl w _ _ (fun z hz=>hw z (by simp[hz])) (Et hm)
theorem Expl.texts (h:Expl m step first L) (hcl:∀ x,Sy top x->cl x<m) {w:List Int} (hw:Tx top w):(exDA m step acc cl L).ac ((exDA m step acc cl L).run 0 w)=acc (runT step cl first w):=by
 have e:=h.run (acc:=acc) hcl w 0 first hw h.l0
 show (match L[(exDA m step acc cl L).run 0 w]? with
  | some x=>acc x
  | none=>false)=_
 rw[e]
theorem Expl.ok (h:Expl m step first L) (hcl:∀ x,Sy top x->cl x<m) (hs:∀ c,c<m->∃ x,Sy top x/\cl x=c):(exDA m step acc cl L).Ok top where
 pos:=getElem?_ne_none h.l0
 lt:=fun i c hi hc=>by
  have hi':i<L.length:=hi;show (match L[i]? with
   | some x=>L.idxOf (step x c)
   | none=>0)<L.length
  rw[zga hi'];exact List.idxOf_lt_length_of_mem (h.closed (getElem_mem hi') hc)
 cllt:=hcl
 surj:=hs
theorem Expl.nxAt (h:Expl m step first L) {i:Nat}{x:σ} (hi:L[i]?=some x) (c:Nat):(exDA m step acc cl L).nx i c=L.idxOf (step x c):=by
 show (match L[i]? with
  | some x=>L.idxOf (step x c)
  | none=>0)=_
 rw[hi]
theorem Expl.reach (h:Expl m step first L):∀ s,0<s->s<(exDA m step acc cl L).n->∃ s' c',s'<s/\c'<m/\(exDA m step acc cl L).nx s' c' = s:=by
 intro s h0 hs;obtain⟨i',c',_,b2,y,z,m1,m2,m3⟩:=h.inv.met s h0 hs;have hc:c'<m:=by have:=getElem?_ne_none m2;simpa using this
 have e:step y c' = z:=by simpa [hc] using m2
 exact⟨i',c',b2,hc,by rw[h.nxAt m1,e];exact IQ h.inv.nodup m3⟩
theorem Expl.grow (h:Expl m step first L):∀ s c,s<(exDA m step acc cl L).n->c<m->∀ u,0<u->u<(exDA m step acc cl L).nx s c->∃ s' c',s'<(exDA m step acc cl L).n/\c'<m/\Before s' c' s c/\(exDA m step acc cl L).nx s' c' = u:=by
 intro s c hs hc u h0 hu;have hs':s<L.length:=hs;have e1:=zga hs';rw[h.nxAt e1]at hu;obtain⟨v,hv,g⟩:=h.inv.grow s c (.inl hs') _ (step L[s] c) e1 (by simp[hc]);rw[IQ h.inv.nodup hv]at hu;obtain⟨i',c',b1,y,z,m1,m2,m3⟩:=g u h0 hu;have hc':c'<m:=by have:=getElem?_ne_none m2;simpa using this
 have e:step y c' = z:=by simpa [hc'] using m2
 exact⟨i',c',getElem?_ne_none m1,hc',b1,by rw[h.nxAt m1,e];exact IQ h.inv.nodup m3⟩
theorem Expl.min (h:Expl m step first L) (hcl:∀ x,Sy top x->cl x<m) (hs:∀ c,c<m->∃ x,Sy top x/\cl x=c)
  (hd:∀ x y,x∈L->y∈L->x≠y->∃ w,Tx top w/\acc (runT step cl x w)≠acc (runT step cl y w))
  (hc:∀ c d,c<m->d<m->c≠d->∃ x∈L,step x c≠step x d)
  (ho:∀ c,c<m->∃ x,Sy top x/\cl x=c/\∀ y,Sy top y->c<cl y->x<y):(exDA m step acc cl L).Min top where
 ok:=h.ok hcl hs
 reach:=h.reach
 grow:=h.grow
 dist:=fun i j hi hj hij=>by
  have hi':i<L.length:=hi;have hj':j<L.length:=hj;have hne:L[i]≠L[j]:=fun e=>hij (by
   have a:=h.inv.nodup.idxOf_getElem i hi';have b:=h.inv.nodup.idxOf_getElem j hj';rw[e]at a;omega)
  obtain⟨w,hw,g⟩:=hd _ _ (getElem_mem hi') (getElem_mem hj') hne;refine⟨w,hw,?_⟩;have e1:=h.run (acc:=acc) hcl w i _ hw (zga hi');have e2:=h.run (acc:=acc) hcl w j _ hw (zga hj');show (match L[(exDA m step acc cl L).run i w]? with
   | some x=>acc x
   | none=>false)≠(match L[(exDA m step acc cl L).run j w]? with
   | some x=>acc x
   | none=>false)
  rw[e1,e2];exact g
 cdist:=fun c d h1 h2 h3=>by
  obtain⟨x,hx,hne⟩:=hc c d h1 h2 h3;obtain⟨i,hi,e⟩:=List.getElem_of_mem hx;have e1:L[i]?=some x:=by rw[zga hi,e]
  refine⟨i,hi,?_⟩;rw[h.nxAt e1,h.nxAt e1];intro e2;have a:=Et (h.closed hx h1);have b:=Et (h.closed hx h2);rw[e2,b]at a;exact hne (Option.some.inj a).symm
 order:=ho
end
section
variable {σ:Type} [DecidableEq σ]
structure ExI (f:σ->List σ) (U R:List σ) (i:Nat) (l:List σ):Prop where
 nodup:l.Nodup
 inU:∀ x∈l,x∈U
 le:i<=l.length
 go:∃ k,bfs f k i l=R/\U.length+1<=k+i
variable {f:σ->List σ}{U R l:List σ}{i:Nat}
theorem ExI.start {x:σ} (hx:x∈U):ExI f U (bfs f (U.length+1) 0 [x]) 0 [x]:=
 ⟨by simp,fun y hy=>by simp at hy;subst hy;exact hx,zero_le _,U.length+1,rfl,le_refl _⟩
theorem ExI.step (h:ExI f U R i l) (hU:∀ x∈U,∀ y∈f x,y∈U) {x:σ} (hx:l[i]?=some x):ExI f U R (i+1) (addAll l (f x)):=by
 obtain⟨h1,h2,h3,k,h4,h5⟩:=h;have hi:=getElem?_ne_none hx;have hxU:=h2 x (zgc hx);refine⟨A8 _ _ h1,fun t ht=>?_,by have:=Fg (f x) l;omega,?_⟩
 ·rcases(Bh _ _ _).1 ht with h|h
  ·exact h2 t h
  ·exact hU x hxU t h
 ·have hlen:=Ay l U h1 h2;obtain⟨k',rfl⟩:∃ k',k=k' + 1:=⟨k-1,by omega⟩;rw[bfs,hx]at h4;exact⟨k',h4,by omega⟩
theorem ExI.fin (h:ExI f U R i l) (hi:¬ i<l.length):l=R:=by
 obtain⟨_,_,_,k,h4,_⟩:=h;have e:l[i]?=none:=List.getElem?_eq_none (by omega);cases k with
 | zero=>exact h4
 | succ k=>rw[bfs,e]at h4;exact h4
theorem ExI.pre (h:ExI f U R i l):∃ m,R=l++m:=by
 obtain⟨_,_,_,k,h4,_⟩:=h;rw[<- h4];exact Ox f k i l
theorem F8 {x:σ}{k:Nat}:(bfs f k 0 [x]).Nodup:=Gp f k 0 [x] (by simp)
theorem IZ (hU:∀ x∈U,∀ y∈f x,y∈U) {x:σ} (hx:x∈U) {k:Nat}:∀ y∈bfs f k 0 [x],y∈U:=LI f (·∈U) hU k 0 [x] (fun y hy=>by simp at hy;subst hy;exact hx)
theorem HO {m:Nat}{step:σ->Nat->σ}{x:σ} (hU:∀ x∈U,∀ c,c<m->step x c∈U) (hx:x∈U) (he:bfs (fun x=>(List.range m).map (step x)) (U.length+1) 0 [x]=R):Expl m step x R:=by
 subst he;have hU':∀ x∈U,∀ y∈(List.range m).map (step x),y∈U:=fun x hx y hy=>by
  obtain⟨c,hc,rfl⟩:=mem_map.1 hy;exact hU x hx c (List.mem_range.1 hc)
 have hl:=Ay _ U (F8 (f:=fun x=>(List.range m).map (step x)) (x:=x) (k:=U.length+1)) (IZ hU' hx);obtain⟨h1,mm,h2⟩:=LH (fun x=>(List.range m).map (step x)) (U.length+1) 0 [x] (BInv.start _ _) (by simp) (by omega);exact⟨h1,by rw[h2];rfl⟩
def ixOf (l:List σ) (x:σ):Nat:=l.idxOf x
def exRow (m:Nat) (step:σ->Nat->σ) (R:List σ) (x:σ):List Nat:=(List.range m).map fun c=>R.idxOf (step x c)
theorem Gd {m:Nat}{step:σ->Nat->σ}{R:List σ}{x:σ}{c:Nat} (h:c<m):(exRow m step R x)[c]?=some (R.idxOf (step x c)):=by simp[exRow,h]
theorem Kn {A m:List σ} (h:R=A++m) {z:σ} (hz:z∈A):R.idxOf z=A.idxOf z:=by rw[h];exact idxOf_append hz
theorem Ko {A m:List σ}{z:σ} (h:R=(A++[z])++m) (hz:z ∉ A):R.idxOf z=A.length:=by
 rw[h,append_assoc,List.idxOf_append,if_neg hz];simp
theorem Ce (l xs:List σ) (c:Nat):∃ m,addAll l xs=addAll l (xs.take c)++m:=by
 have h:=Br (xs.take c) (xs.drop c) l;rw[List.take_append_drop]at h;rw[h];exact BC _ _
end
end Go.Ev
