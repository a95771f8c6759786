/- append, continued. -/
import Derived.Test.YtoocnmcbfkpdbaaGreatDoorP02
import Derived.MapKept
import Derived.WideKeyRuns
import Derived.Laws.BytesString
set_option linter.unusedVariables false
set_option linter.unusedSimpArgs false
open List (all_eq_true getElem?_append_left getElem?_append_right getElem?_cons_succ getElem?_cons_zero getElem?_drop getElem?_eq_getElem getElem?_set_self getElem?_take getElem?_toArray length_append length_eq_zero_iff map_cons mem_of_getElem?)
open Nat (add_mul le_refl mul_le_mul_right sub_self sub_zero zero_add)
open Array (size_append)
namespace Go.Ev
variable [VarTab]
set_option linter.unusedSectionVars false
open Go.RowKit
variable {P:Program}{B0:Nat}{w0:Base}{w:World}{I:Imm}{H:List MB}{L:List Lay}
theorem GK {T:TypeId} (h:tyNotInt P T=true):∃ d,P.underlying T=some d/\∀ k,d≠.int k:=by
 unfold tyNotInt at h;cases hu:P.underlying T with
 | none=>rw[hu]at h;simp at h
 | some d=>rw[hu]at h;exact⟨d,rfl,fun k e=>by subst e;simp at h⟩
theorem CU (z:Array Value) (n:Nat):(Builtin.zeroCells z n).size=n*z.size:=by simp[Builtin.zeroCells]
theorem Ex {sT xT e:TypeId}{ty:TypeId}{k by_:Nat}{ze:AV}{s x:Value}{m:Nat}{base:Option Addr}{sLen sCap:Nat}{new:Array Value}
  (he:tyElem P sT=some e) (hxT:tyNotInt P xT=true) (hk:tySz P e=some k) (hby:tyBytes P e=some by_) (hze:tyZero P e=some ze) (hzl:ze.cells.length=k)
  (hs:s=.slice base sLen sCap) (hlen:(Builtin.lenOf x).run P w=.ok m w) :
  (sLen+m<=sCap->(Builtin.firstCells k m x).run P w=.ok new w->(Builtin.append_ #[sT,xT] ty #[s,x]).run P w =
    match base with
    | some a=>((storeCells (a.add (sLen*k)) new.toList).run P w).andThen fun _ w'=>.ok (.slice base (sLen+m) sCap) w'
    | none=>.ok (.slice base (sLen+m) sCap) w) /\
  (sCap<sLen+m->roomFor (sLen+m) by_=true->∀ old,(Builtin.firstCells k sLen s).run P w.drew=.ok old w.drew->(Builtin.firstCells k m x).run P w.drew=.ok new w.drew ->
    ∃ cap spare,sLen+m<=cap/\spare.size=(cap-(sLen+m))*k /\
      (Builtin.append_ #[sT,xT] ty #[s,x]).run P w=.ok (.slice (some ⟨w.heap.size,0,none⟩) (sLen+m) cap) (w.drew.alloc (.cells (old++new++spare) e))):=by
 have hu:=BP he;obtain⟨d,hd,hdi⟩:=GK hxT;obtain⟨inf,hinf,hbyt⟩:=C6 hby
 obtain⟨zv,z1,z2⟩:=Cl hze;have hzs:zv.cells.size=k:=by rw[<- hzl,z2,Hy]
 have hti:∀ w,(typeInfo e).run P w=.ok inf w:=fun w=>by simp[typeInfo,hinf]
 subst hs;have hnz:∀ {α:Type} (a b:Sem α),(match d with | .int _=>a|_=>b)=b:=by
  intro α a b;cases d<;>first|rfl|exact absurd rfl (hdi _)
 have hff:¬ (false=true):=by decide
 constructor
 ·intro hle hnew;unfold Builtin.append_;simp only[getElem?_toArray,getElem?_cons_zero,getElem?_cons_succ,Sem.run_bind,run_underlying hu,run_underlying hd,Result.andThen_ok,Aj hk,Sem.run_pure];cases d<;>first|exact absurd rfl (hdi _)|skip
  all_goals
   rw[if_neg hff];simp only[Sem.run_bind,hlen,Result.andThen_ok];rw[if_pos hle];simp only[Bool.not_false,if_true,Sem.run_bind,hnew,Result.andThen_ok];cases base<;>simp only[Sem.run_bind,Sem.run_pure]
 ·intro hgt hroom old hold hnew;obtain⟨r1,r2,r3⟩:=C8 hroom;have hmax:IntKind.i64.max=9223372036854775807:=by decide
  have h48:¬ (Builtin.nextslicecap (sLen+m) sCap*inf.bytes > 2 ^ 48):=by
   have h1:=EY hgt;have h2:Builtin.nextslicecap (sLen+m) sCap*inf.bytes<=(2*(sLen+m)+192)*inf.bytes:=mul_le_mul_right _ h1;rw[hbyt]at h2 |-;rw[add_mul,Nat.mul_assoc]at h2;have h3:(2:Nat) ^ 48=281474976710656:=by decide
   rw[h3];omega
  have hmx:¬ (((sLen+m:Nat):Int) > IntKind.i64.max/\(false=true∨inf.bytes=0)):=by
   rw[hmax];omega
  have hq:Question.forced (.appendCap (sLen+m) sCap e)=false:=rfl;refine⟨(sLen+m)+(w.tape w.drawn (.appendCap (sLen+m) sCap e)) % (2 ^ 63-(sLen+m)),Builtin.zeroCells zv.cells ((w.tape w.drawn (.appendCap (sLen+m) sCap e)) % (2 ^ 63-(sLen+m))),by omega,?_,?_⟩
  ·rw[CU,hzs];congr 1;omega
  ·unfold Builtin.append_;simp only[getElem?_toArray,getElem?_cons_zero,getElem?_cons_succ,Sem.run_bind,run_underlying hu,run_underlying hd,Result.andThen_ok,Aj hk,Sem.run_pure];cases d<;>first|exact absurd rfl (hdi _)|skip
   all_goals
    rw[if_neg hff];simp only[Sem.run_bind,hlen,Result.andThen_ok];rw[if_neg (by omega)];simp only[Sem.run_bind,hti,Result.andThen_ok];rw[if_neg hmx];simp only[Sem.run_bind,hti,Result.andThen_ok];rw[if_neg h48];simp only[Sem.run_bind,run_choose_drew,hq,Bool.false_eq_true,if_false,Result.andThen_ok,hti,run_askRoom,hold,Bool.not_false,if_true,hnew,z1,newRow,run_newObj_alloc,Sem.run_pure,Question.cut,Nat.add_sub_cancel_left,World.size_drew]
set_option maxHeartbeats 1600000 in
theorem D0 (hi:Inv B0 w0 I H L w) {sT xT ty:TypeId}{s:AV}{vs vx:Value} (hs:Rep I L s vs) {ys:List AV}{k by_:Nat}{ze:AV}{e:TypeId}{new newd:Array Value} (n3:RowRep I L k ys new) (d3:RowRep I L k ys newd)
 (hr1:∀(base:Option Addr) (sLen sCap:Nat),vs=.slice base sLen sCap->sLen+ys.length<=sCap->(Builtin.append_ #[sT,xT] ty #[vs,vx]).run P w =
   match base with
   | some a=>((storeCells (a.add (sLen*k)) new.toList).run P w).andThen fun _ w'=>.ok (.slice base (sLen+ys.length) sCap) w'
   | none=>.ok (.slice base (sLen+ys.length) sCap) w)
 (hr2:∀(base:Option Addr) (sLen sCap:Nat),vs=.slice base sLen sCap->sCap<sLen+ys.length->roomFor (sLen+ys.length) by_=true->∀ old,(Builtin.firstCells k sLen vs).run P w.drew=.ok old w.drew ->
   ∃ cap spare,sLen+ys.length<=cap/\spare.size=(cap-(sLen+ys.length))*k /\
     (Builtin.append_ #[sT,xT] ty #[vs,vx]).run P w=.ok (.slice (some ⟨w.heap.size,0,none⟩) (sLen+ys.length) cap) (w.drew.alloc (.cells (old++newd++spare) e)))
 {r:AV}{H':List MB}{nt:Option TypeId}{kt:Nat->Nat->Option TypeId} (hnt:∀ T,nt=some T->T=e) (hkt:∀ id off T t k els z,kt id off=some T->H[id]?=some (MB.mk t k els z)->T=e/\off=0/\t=some T) (h:appCore H s ys k by_ ze nt kt=some (r,H')) :
 ∃ u w' I' L',(Builtin.append_ #[sT,xT] ty #[vs,vx]).run P w=.ok u w'/\Inv B0 w0 I' H' L' w'/\Ext I L I' L'/\Rep I' L' r u:=by
     unfold appCore at h;split at h
     ·rename_i hcond;obtain⟨c1,c2,c3⟩:=hcond;have hyk:∀ y∈ys,y.cells.length=k:=by
       intro y hy;have:=all_eq_true.1 c1 y hy;simp only[Bool.and_eq_true,decide_eq_true_eq]at this;exact this.1
      split at h
      ·rename_i t xs;split at h
       ·-- nothing is appended
        simp at h;obtain⟨rfl,rfl⟩:=h;have hnew0:new = #[]:=by
         have:=n3.1;simp at this;exact this
        subst hnew0;generalize hq:AV.sl t xs=q at hs;cases hs with
        | nilsl t'=>
          have ha:=hr1 (none) (0) (0) rfl (by simp);exact⟨_,w,I,L,by rw[ha];rfl,hi,.refl I L,.nilsl t'⟩
        | sl t' xs' b o c k' f hc ht hk' hI hR=>
          have ha:=hr1 (some ⟨b,o,none⟩) (xs'.length) (c) rfl (by simpa using hc);exact⟨_,w,I,L,by rw[ha];rfl,hi,.refl I L,.sl t' xs' b o c k' f hc ht hk' hI hR⟩
        | _=>cases hq
       ·rename_i _ hne;split at h
        ·rename_i hg;obtain⟨g1,g2,g3⟩:=hg;subst g1;simp at h;obtain⟨rfl,rfl⟩:=h;have hxk:∀ y∈xs,y.cells.length=k:=by
          intro y hy;have:=all_eq_true.1 g3 y hy
          simpa using this
         obtain⟨old,o1,o2,o3⟩:=CL (P:=P) hi.drew hs (ys:=xs) rfl hxk;have hm:0<ys.length:=by
          rcases Nat.eq_zero_or_pos ys.length with g|g
          ·exact absurd (length_eq_zero_iff.1 g) hne
          ·exact g
         have hv:∃ base cap,vs=.slice base xs.length cap/\cap=xs.length:=by
          generalize hq:AV.sl true xs=q at hs;cases hs with
          | nilsl t'=>simp at hq;obtain⟨_,rfl⟩:=hq;exact⟨none,0,rfl,rfl⟩
          | sl t' xs' b o c k' f hc ht hk' hI hR=>
            simp at hq;obtain⟨rfl,rfl⟩:=hq;exact⟨_,c,rfl,ht rfl⟩
          | _=>cases hq
         obtain⟨base,cap,rfl,rfl⟩:=hv;obtain⟨cap',spare,p1,p2,p3⟩:=hr2 (base) (xs.length) (xs.length) rfl (by omega) g2 old o2;have hrow:=o3.append d3;have hn:=CB nt hi.drew hrow e spare fun T' hT=>⟨hnt T' hT,by rw[size_append,hrow.1,length_append];have:=Nat.mul_pos (show 0<xs.length+ys.length by omega) c2;omega⟩;refine⟨_,_,_,_,p3,hn.1,hn.2,?_⟩;have hlen:(xs++ys).length=xs.length+ys.length:=by simp
         refine .ms H.length k _ 0 _ _ w.heap.size 0 cap' (by rw[<- hi.len];exact D8 L _) (by simp) rfl (by omega) p1 (fun _=>⟨le_refl _,rfl,fun _=>by simp,by omega,?_⟩);simp only[sub_self,zero_add];rw[size_append,hrow.1,p2,hlen,<- add_mul];exact mul_le_mul_right k (by omega)
        ·simp at h
      ·rename_i id k' tot off len;split at h
       ·rename_i k'' els z hrow;split at h
        ·rename_i hcc;obtain⟨q1,q2,q3,q4⟩:=hcc;subst q2;subst q3;obtain⟨l,hl,hb⟩:=hi.row hrow;obtain⟨tg,hm⟩:=BR hrow;cases hs with
         | msn _ _ l2 hL hk2=>
           rw[hl]at hL;obtain rfl:=Option.some.inj hL;have hels:els=[]:=length_eq_zero_iff.1 q1;subst hels;split at h
           ·simp at h;obtain⟨rfl,rfl⟩:=h;have hnew0:new = #[]:=by
             have:=n3.1;simp at this;exact this
            subst hnew0;have ha:=hr1 (none) (0) (0) rfl (by simp);exact⟨_,w,I,L,by rw[ha];rfl,hi,.refl I L,.msn id k' l hl hk2⟩
           ·rename_i _ hne;have hm1:0<ys.length:=by
             rcases Nat.eq_zero_or_pos ys.length with g|g
             ·exact absurd (length_eq_zero_iff.1 g) hne
             ·exact g
            split at h
            ·rename_i hz;obtain⟨z1,z2⟩:=hz;rw[if_neg (by omega)]at h;simp at h;obtain⟨rfl,rfl⟩:=h;have hself:Rep I L (.ms id k' 0 0 0) (.slice none 0 0):=.msn id k' l hl hk2;have helems:elemsOf H (.ms id k' 0 0 0)=some []:=by
              simp only[elemsOf,hrow];simp
             obtain⟨old,o1,o2,o3⟩:=CL (P:=P) hi.drew hself helems (k:=k') (by simp);obtain⟨cap',spare,p1,p2,p3⟩:=hr2 (none) (0) (0) rfl (by omega) z2 old (by simpa using o2);have hrw:=o3.append d3;simp only[List.nil_append]at hrw
             obtain⟨I',r1,r2⟩:=hi.drew.regrow (t':=kt id 0) hm hl ys 0 (old++newd++spare) e (fun T' hT=>⟨(hkt _ _ _ _ _ _ _ hT hm).1,rfl,by rw[size_append,hrw.1];have:=Nat.mul_pos hm1 c2;omega⟩) (by simpa using hm1) (by omega) hyk
              (by rw[size_append,hrw.1,sub_zero];omega)
              (fun i j q y g1 g2 g3=>by
                obtain⟨v,a1,a2,a3⟩:=hrw.some g1 g2;refine⟨v,?_,a2,a3⟩;have hlt:i*k' + j<(old++newd).size:=by
                 rcases Nat.lt_or_ge (i*k' + j) (old++newd).size with g|g
                 ·exact g
                 ·rw[Array.getElem?_eq_none g]at a1;simp at a1
                rw[sub_zero,Array.getElem?_append_left hlt];exact a1)
             refine⟨_,_,_,_,p3,by simpa using r1,by simpa using r2,?_⟩
             have:=Rep.ms (I:=I') (L:=L.set id ⟨k',ys.length,w.heap.size,(old++newd++spare).size,0,0⟩) id k' ys.length 0 ys.length ⟨k',ys.length,w.heap.size,(old++newd++spare).size,0,0⟩ w.heap.size 0 cap'
              (by rw[getElem?_set_self (List.getElem?_eq_some_iff.1 hl).1]) (le_refl _) rfl (by omega) (by omega) (fun _=>⟨le_refl _,rfl,fun _=>by simp,by omega,?_⟩)
             ·simpa using this
             ·simp only[sub_self,zero_add];rw[size_append,hrw.1,p2,<- add_mul];exact mul_le_mul_right k' (by omega)
            ·simp at h
         | ms _ _ _ _ _ l2 b o c hL ht hk2 hl2 hlc hvv=>
           rw[hl]at hL;obtain rfl:=Option.some.inj hL;obtain⟨v1,v2,v3,v4,v5⟩:=hvv (by rw[hb.ht];exact q1.symm);subst v2;split at h
           ·simp at h;obtain⟨rfl,rfl⟩:=h;have hnew0:new = #[]:=by
             have:=n3.1;simp at this;exact this
            subst hnew0;have ha:=hr1 (some ⟨l.b,o,none⟩) (len) (c) rfl (by simpa using hlc);exact⟨_,w,I,L,by rw[ha];rfl,hi,.refl I L,.ms id k' tot off len l l.b o c hl ht hk2 hl2 hlc hvv⟩
           ·rename_i _ hne;have hmpos:0<ys.length:=by
             rcases Nat.eq_zero_or_pos ys.length with g|g
             ·exact absurd (length_eq_zero_iff.1 g) hne
             ·exact g
            split at h
            ·rename_i hz;obtain⟨z1,z2⟩:=hz;have hnsz:new.toList.length=ys.length*k':=by simpa using n3.1
             have hones:∀ v∈new.toList,v.oneCell' = true:=by
              intro v hv;obtain⟨q,hq⟩:=List.getElem?_of_mem hv;have hqlt:q<ys.length*k':=by rw[<- hnsz];exact(List.getElem?_eq_some_iff.1 hq).1
              have e1:q / k'<ys.length:=Nat.div_lt_of_lt_mul (by rw[Nat.mul_comm];exact hqlt);have e2:q % k'<k':=Nat.mod_lt _ c2;have hx1:=getElem?_eq_getElem e1;have hy1:(ys[q / k']).cells[q % k']?=some _:=getElem?_eq_getElem (by rw[hyk _ (List.getElem_mem e1)];exact e2);have:=(n3.2.2 _ _ _ _ hx1 hy1).1;have e3:q / k'*k' + q % k' = q:=by rw[Nat.mul_comm];exact Nat.div_add_mod q k'
              rw[e3]at this;have e4:new.getD q undef=v:=by
               simp at hq;simp[Array.getD_eq_getD_getElem?,hq]
              rw[e4]at this;exact this
             have inplace:∀ els':List AV,len+ys.length<=c->off+len+ys.length<=els'.length->els'.length<=els.length∨els'.length=off+len+ys.length->els.length<=els'.length ->
               (∀ i,els'[i]?=if i<off+len then els[i]? else if i<off+len+ys.length then ys[i-(off+len)]? else els[i]?) ->
               ∃ u w' I' L',(Builtin.append_ #[sT,xT] ty #[.slice (some ⟨l.b,o,none⟩) len c,vx]).run P w=.ok u w' /\
                 Inv B0 w0 I' (H.set id (MB.mk (kt id off) k' els' z)) L' w'/\Ext I L I' L'/\Rep I' L' (.ms id k' els'.length off (len+ys.length)) u:=by
              intro els' hcap h1 h2 h2b h3;have v3:=v3 (by omega);have hn0:l.n≠0:=by
               have:1*k'<=(off-l.sh+c)*k':=mul_le_mul_right k' (by omega);omega
              obtain⟨cs,T0,fr,f1,f2,f3,f4,f9f4⟩:=hb.blk hn0;have ha:=hr1 (some ⟨l.b,o,none⟩) (len) (c) rfl hcap;have hadd:(⟨l.b,o,none⟩:Addr).add (len*k')=⟨l.b,o+len*k',none⟩:=Addr.add_lit _ _ _;have hpos:o+len*k' = l.o+(off+len-l.sh)*k':=by
               rw[v3];have:(off+len-l.sh)*k' = (off-l.sh)*k' + len*k':=by rw[<- add_mul];congr 1;omega
               omega
              have hend:l.o+(off+len-l.sh)*k' + ys.length*k'<=cs.size:=by
               rw[f2];have:(off-l.sh+c)*k' >= (off+len-l.sh)*k' + ys.length*k':=by
                rw[<- add_mul];exact mul_le_mul_right k' (by omega)
               omega
              have hfz:=mul_le_mul_right k' (show z-l.sh<=off+len-l.sh by omega);have hst:=run_storeCells_atF P l.b (l.o+(off+len-l.sh)*k') T0 fr new.toList 0 cs w f1 (by omega) (by rw[hnsz];omega) hones;generalize hcs':(cs.toList.take (l.o+(off+len-l.sh)*k' + 0)++new.toList++cs.toList.drop (l.o+(off+len-l.sh)*k' + 0+new.toList.length)).toArray=cs' at hst;have hget:∀ q,cs'[q]?=if l.o+(off+len-l.sh)*k'<=q/\q<l.o+(off+len-l.sh)*k' + ys.length*k' then new[q-(l.o+(off+len-l.sh)*k')]? else cs[q]?:=by
               intro q;rw[<- hcs'];simp only[getElem?_toArray,Nat.add_zero];have hl1:(cs.toList.take (l.o+(off+len-l.sh)*k')).length=l.o+(off+len-l.sh)*k':=by simp;omega
               by_cases g1:q<l.o+(off+len-l.sh)*k'
               ·rw[List.append_assoc,getElem?_append_left (by rw[hl1];exact g1),getElem?_take,if_pos g1,if_neg (by omega)];simp
               ·rw[List.append_assoc,getElem?_append_right (by rw[hl1];omega),hl1];by_cases g2:q<l.o+(off+len-l.sh)*k' + ys.length*k'
                ·rw[getElem?_append_left (by rw[hnsz];omega),if_pos (by omega)];simp
                ·rw[getElem?_append_right (by rw[hnsz];omega),getElem?_drop,if_neg (by omega)];simp only[hnsz];rw[<- Array.getElem?_toList];congr 1;omega
              have hcsz:cs'.size=cs.size:=by
               rw[<- hcs'];simp only[List.size_toArray,length_append,List.length_take,List.length_drop,Array.length_toList,Nat.add_zero];have:new.size=ys.length*k':=n3.1;omega
              have hwid:∀ q∈els',q.cells.length=k':=by
               intro q hq;obtain⟨i,hi'⟩:=List.getElem?_of_mem hq;rw[h3 i]at hi';split at hi'
               ·exact hb.wid q (mem_of_getElem? hi')
               ·split at hi'
                ·exact hyk q (mem_of_getElem? hi')
                ·exact hb.wid q (mem_of_getElem? hi')
              have hsh:=hb.hsh;have hfit:l.o+(els'.length-l.sh)*k'<=l.n:=by
               rcases h2 with g|g
               ·have:=hb.fit;have:(els'.length-l.sh)*k'<=(els.length-l.sh)*k':=mul_le_mul_right k' (by omega);omega
               ·have:(els'.length-l.sh)*k'<=(off-l.sh+c)*k':=mul_le_mul_right k' (by omega);omega
              have hw:=hi.write (t':=kt id off) hm (fun T' hT=>(hkt _ _ _ _ _ _ _ hT hm).2.2) hl hn0 els' { l with tot:=els'.length } cs' f1 hcsz hk2 rfl rfl rfl rfl rfl h2b hwid hfit
               (fun q hq=>by
                 rw[hget,if_neg];intro g;have:(z-l.sh)*k'<=(off+len-l.sh)*k':=mul_le_mul_right k' (by omega);omega)
               (fun i j q y g1 g2 g3=>by
                 have hj:j<k':=by rw[<- hwid q (mem_of_getElem? g1)];exact(List.getElem?_eq_some_iff.1 g2).1
                 have hxx:Ext I L I (L.set id { l with tot:=els'.length }):=by
                  refine⟨.refl I,fun id2 l2 hl2'=>?_⟩;by_cases e:id=id2
                  ·subst e;rw[hl]at hl2';obtain rfl:=Option.some.inj hl2';refine⟨{ l with tot:=els'.length },by rw[getElem?_set_self (List.getElem?_eq_some_iff.1 hl).1],rfl,by rw[hb.ht];exact h2b,fun e=>?_⟩;have e:els'.length=l.tot:=e;rw[e]
                  ·exact⟨l2,by rw[List.getElem?_set_ne e];exact hl2',rfl,le_refl _,fun _=>rfl⟩
                 rw[hget];rw[h3 i]at g1;by_cases b1:i<off+len
                 ·rw[if_pos b1]at g1;have:=mul_le_mul_right k' (show i-l.sh+1<=off+len-l.sh by omega);rw[add_mul]at this;rw[if_neg (by omega)];obtain⟨v,a1,a2,a3⟩:=f3 i j q y g1 g2 g3;exact⟨v,a1,a2,a3.mono hxx⟩
                 ·rw[if_neg b1]at g1;have hsplit:(i-l.sh)*k' = (off+len-l.sh)*k' + (i-(off+len))*k':=by rw[<- add_mul];congr 1;omega
                  by_cases b2:i<off+len+ys.length
                  ·rw[if_pos b2]at g1;obtain⟨v,a1,a2,a3⟩:=n3.some g1 g2;have:=mul_le_mul_right k' (show i-(off+len)+1<=ys.length by omega);rw[add_mul]at this;rw[if_pos (by omega)];refine⟨v,?_,a2,a3.mono hxx⟩;rw[<- a1];congr 1;omega
                  ·rw[if_neg b2]at g1;have:=mul_le_mul_right k' (show ys.length<=i-(off+len) by omega);rw[if_neg (by omega)];obtain⟨v,a1,a2,a3⟩:=f3 i j q y g1 g2 g3;exact⟨v,a1,a2,a3.mono hxx⟩)
              refine⟨.slice (some ⟨l.b,o,none⟩) (len+ys.length) c,_,_,_,?_,hw.1,hw.2,?_⟩
              ·rw[ha];simp only[hadd,hpos,hst,Result.andThen_ok]
              ·refine .ms id k' els'.length off (len+ys.length) { l with tot:=els'.length } l.b o c (by rw[getElem?_set_self (List.getElem?_eq_some_iff.1 hl).1]) (le_refl _) hk2 (by omega) hcap (fun _=>⟨v1,rfl,fun _=>v3,by omega,v5⟩)
             split at h
             ·rename_i hin;simp at h;obtain⟨rfl,rfl⟩:=h;have hl':(els.take (off+len)++(ys++els.drop (off+len+ys.length))).length=els.length:=by simp;omega
              have:=inplace (els.take (off+len)++(ys++els.drop (off+len+ys.length))) (by omega) (by omega) (by omega) (by omega) (fun i=>by
               by_cases b1:i<off+len
               ·rw[if_pos b1,getElem?_append_left (by simp;omega),getElem?_take,if_pos b1]
               ·have ht':(els.take (off+len)).length=off+len:=by simp;omega
                rw[if_neg b1,getElem?_append_right (by omega),ht'];by_cases b2:i<off+len+ys.length
                ·rw[if_pos b2,getElem?_append_left (by omega)]
                ·rw[if_neg b2,getElem?_append_right (by omega),getElem?_drop];congr 1;omega)
              rw[hl',q1]at this;exact this
             ·rename_i hout;simp at h;obtain⟨rfl,rfl⟩:=h;have hl':(els.take (off+len)++ys).length=off+len+ys.length:=by simp;omega
              by_cases hcap:len+ys.length<=c
              ·have:=inplace (els.take (off+len)++ys) hcap (by omega) (by omega) (by omega) (fun i=>by
                have ht':(els.take (off+len)).length=off+len:=by simp;omega
                by_cases b1:i<off+len
                ·rw[if_pos b1,getElem?_append_left (by omega),getElem?_take,if_pos b1]
                ·rw[if_neg b1,getElem?_append_right (by omega),ht'];by_cases b2:i<off+len+ys.length
                 ·rw[if_pos b2]
                 ·rw[if_neg b2,List.getElem?_eq_none (by omega),List.getElem?_eq_none (by omega)])
               rw[hl']at this;exact this
              ·-- new memory
               have hself:Rep I L (.ms id k' tot off len) (.slice (some ⟨l.b,o,none⟩) len c):=.ms id k' tot off len l l.b o c hl ht hk2 hl2 hlc hvv;have helems:elemsOf H (.ms id k' tot off len)=some ((els.drop off).take len):=by
                simp only[elemsOf,hrow];rw[if_pos ⟨q1,trivial⟩]
               have hsub:∀ y∈(els.drop off).take len,y.cells.length=k':=by
                intro y hy;exact hb.wid y (List.mem_of_mem_drop (List.mem_of_mem_take hy))
               have holdlen:((els.drop off).take len).length=len:=by simp;omega
               obtain⟨old,o1,o2,o3⟩:=CL (P:=P) hi.drew hself helems hsub;rw[holdlen]at o2;obtain⟨cap',spare,p1,p2,p3⟩:=hr2 (some ⟨l.b,o,none⟩) (len) (c) rfl (by omega) z2 old o2;have hrw:=o3.append d3;have hwid:∀ q∈els.take (off+len)++ys,q.cells.length=k':=by
                intro q hq;rcases List.mem_append.1 hq with g|g
                ·exact hb.wid q (List.mem_of_mem_take g)
                ·exact hyk q g
               have hrsz:(old++newd).size=(len+ys.length)*k':=by rw[hrw.1,length_append,holdlen]
               obtain⟨I',r1,r2⟩:=hi.drew.regrow (t':=kt id off) hm hl (els.take (off+len)++ys) off (old++newd++spare) e (fun T' hT=>⟨(hkt _ _ _ _ _ _ _ hT hm).1,(hkt _ _ _ _ _ _ _ hT hm).2.1,by rw[size_append,hrsz];have:=Nat.mul_pos (show 0<len+ys.length by omega) c2;omega⟩) (by rw[hl'];omega) (by omega) hwid
                (by rw[hl',size_append,hrsz]
                    have:(off+len+ys.length-off)*k' = (len+ys.length)*k':=by congr 1;omega
                    omega)
                (fun i j q y g1 g2 g3=>by
                  have hq:((els.drop off).take len++ys)[i-off]?=some q:=by
                   have ht':(els.take (off+len)).length=off+len:=by simp;omega
                   by_cases b1:i<off+len
                   ·rw[getElem?_append_left (by omega),getElem?_take,if_pos b1]at g1;rw[getElem?_append_left (by omega),getElem?_take,if_pos (by omega),getElem?_drop];rw[<- g1];congr 1;omega
                   ·rw[getElem?_append_right (by omega),ht']at g1;rw[getElem?_append_right (by omega),holdlen];rw[<- g1];congr 1;omega
                  obtain⟨v,a1,a2,a3⟩:=hrw.some hq g2;refine⟨v,?_,a2,a3⟩;have hlt:(i-off)*k' + j<(old++newd).size:=by
                   rcases Nat.lt_or_ge ((i-off)*k' + j) (old++newd).size with g|g
                   ·exact g
                   ·rw[Array.getElem?_eq_none g]at a1;simp at a1
                  rw[Array.getElem?_append_left hlt];exact a1)
               refine⟨_,_,_,_,p3,r1,r2,?_⟩;refine .ms id k' _ off _ _ w.heap.size 0 cap' (by rw[getElem?_set_self (List.getElem?_eq_some_iff.1 hl).1]) (by simp;omega) rfl (by omega) p1 (fun _=>⟨le_refl _,rfl,fun _=>by simp,by omega,?_⟩);simp only[sub_self,zero_add];rw[size_append,hrsz,p2,<- add_mul];exact mul_le_mul_right k' (by omega)
            ·simp at h
        ·simp at h
       ·simp at h
      ·simp at h
     ·simp at h
theorem GF (hi:Inv B0 w0 I H L w) {sT xT ty:TypeId}{s x:AV}{vs vx:Value} (hs:Rep I L s vs) (hx:Rep I L x vx) {r:AV}{H':List MB}
  (h:evAppend P H sT xT s x=some (r,H')) :
  ∃ u w' I' L',(Builtin.append_ #[sT,xT] ty #[vs,vx]).run P w=.ok u w'/\Inv B0 w0 I' H' L' w'/\Ext I L I' L'/\Rep I' L' r u:=by
 unfold evAppend at h;split at h
 ·rename_i e he hxT;split at h
  ·rename_i k by_ ze hk hby hze;split at h
   ·simp at h
   ·rename_i ys hys;have h0:appCore H s ys k by_ ze (newTag P e) (fun id off=>keepTag P H id off e)=some (r,H'):=h;have hcond:ys.all (fun y=>decide (y.cells.length=k)&&y.cells.all AV.ok)=true/\0<k/\ze.cells.length=k:=by
     unfold appCore at h0;split at h0
     ·rename_i hc;exact hc
     ·cases h0
    obtain⟨c1,c2,c3⟩:=hcond;have hyk:∀ y∈ys,y.cells.length=k:=by
     intro y hy;have:=all_eq_true.1 c1 y hy;simp only[Bool.and_eq_true,decide_eq_true_eq]at this;exact this.1
    obtain⟨new,n1,n2,n3⟩:=Hs hi hx hys hyk;obtain⟨newd,d1,d2,d3⟩:=Hs hi.drew hx hys hyk;refine D0 (e:=e) hi hs n3 d3 (fun base sLen sCap hv hle=>?_) (fun base sLen sCap hv hgt hroom old hold=>?_) (fun T h=>Ga h) (fun id off T t k els z h hm=>Fy h hm) h0
    ·have ha:=(Ex (P:=P) (w:=w) (ty:=ty) he hxT hk hby hze c3 hv n1).1 hle n2;cases base<;>exact ha
    ·exact(Ex (P:=P) (w:=w) (ty:=ty) he hxT hk hby hze c3 hv n1).2 hgt hroom old hold d2
  ·simp at h
 ·simp at h
theorem Dz {sT xT e:TypeId}{ty:TypeId}{k by_:Nat}{zv:Value}{kd:IntKind}{s:Value}{m:Nat}{base:Option Addr}{sLen sCap:Nat}
  (he:tyElem P sT=some e) (hxT:tyInt P xT=some kd) (hk:tySz P e=some k) (hby:tyBytes P e=some by_) (hm:m<=1000000) (hby2:by_<=100000) (hk0:0<k) (z1:∀ w,(zeroValue e).run P w=.ok zv w) (hzs:zv.cells.size=k)
  (hs:s=.slice base sLen sCap) :
  (sLen+m<=sCap->(Builtin.append_ #[sT,xT] ty #[s,.int .i64 m]).run P w =
    match base with
    | some a=>((storeCells (a.add (sLen*k)) (Builtin.zeroCells zv.cells m).toList).run P w).andThen fun _ w'=>.ok (.slice base (sLen+m) sCap) w'
    | none=>.ok (.slice base (sLen+m) sCap) w) /\
  (sCap<sLen+m->roomFor (sLen+m) by_=true->∀ old,(Builtin.firstCells k sLen s).run P w.drew=.ok old w.drew ->
    ∃ cap spare,sLen+m<=cap/\spare.size=(cap-(sLen+m))*k /\
      (Builtin.append_ #[sT,xT] ty #[s,.int .i64 m]).run P w=.ok (.slice (some ⟨w.heap.size,0,none⟩) (sLen+m) cap) (w.drew.alloc (.cells (old++Builtin.zeroCells zv.cells m++spare) e))):=by
 have hu:=BP he;have hd:=CX hxT;obtain⟨inf,hinf,hbyt⟩:=C6 hby
 have hti:∀ w,(typeInfo e).run P w=.ok inf w:=fun w=>by simp[typeInfo,hinf]
 subst hs;have hwm:IntKind.i64.wrap (m:Int)=m:=by rw[IntKind.wrap_i64];omega
 have hl0:¬ ((m:Int)<0):=by omega
 have hl1:¬ ((m:Int)*(inf.bytes:Int) > 2 ^ 48):=by
  rw[hbyt];have h1:m*by_<=1000000*100000:=Nat.mul_le_mul hm hby2;have h3:(2:Int) ^ 48=281474976710656:=by decide
  rw[h3];have:((m*by_:Nat):Int)=(m:Int)*(by_:Int):=by simp
  omega
 have hnew:∀ w,(if m*k=0 then(pure #[]:Sem (Array Value)) else do pure (Builtin.zeroCells (<- zeroValue e).cells m)).run P w=.ok (Builtin.zeroCells zv.cells m) w:=fun w=>by
  split
  ·rename_i h0;have:m=0:=by
    rcases Nat.mul_eq_zero.1 h0 with h|h
    ·exact h
    ·omega
   subst this;simp[Builtin.zeroCells]
  ·simp only[Sem.run_bind,z1,Result.andThen_ok,Sem.run_pure]
 constructor
 ·intro hle;unfold Builtin.append_;simp only[getElem?_toArray,getElem?_cons_zero,getElem?_cons_succ,Sem.run_bind,run_underlying hu,run_underlying hd,Result.andThen_ok,Aj hk,Sem.run_pure,asInt,asIntOf,hwm,if_neg hl0,hti,if_neg hl1,if_true,Int.toNat_natCast,if_pos hle,Bool.not_true,Bool.false_eq_true,if_false,hnew];cases base<;>simp only[Sem.run_bind,Sem.run_pure]
 ·intro hgt hroom old hold;obtain⟨r1,r2,r3⟩:=C8 hroom;have hmax:IntKind.i64.max=9223372036854775807:=by decide
  have h48:¬ (Builtin.nextslicecap (sLen+m) sCap*inf.bytes > 2 ^ 48):=by
   have h1:=EY hgt;have h2:Builtin.nextslicecap (sLen+m) sCap*inf.bytes<=(2*(sLen+m)+192)*inf.bytes:=mul_le_mul_right _ h1;rw[hbyt]at h2 |-;rw[add_mul,Nat.mul_assoc]at h2;have h3:(2:Nat) ^ 48=281474976710656:=by decide
   rw[h3];omega
  have hmx:¬ (((sLen+m:Nat):Int) > IntKind.i64.max/\(True∨inf.bytes=0)):=by
   rw[hmax];omega
  have hmx2:¬ (((sLen+m:Nat):Int) > IntKind.i64.max/\(true=true∨inf.bytes=0)):=by
   rw[hmax];omega
  have hq:Question.forced (.appendCap (sLen+m) sCap e)=false:=rfl;refine⟨(sLen+m)+(w.tape w.drawn (.appendCap (sLen+m) sCap e)) % (2 ^ 63-(sLen+m)),Builtin.zeroCells zv.cells ((w.tape w.drawn (.appendCap (sLen+m) sCap e)) % (2 ^ 63-(sLen+m))),by omega,?_,?_⟩
  ·rw[CU,hzs];congr 1;omega
  ·unfold Builtin.append_;simp only[getElem?_toArray,getElem?_cons_zero,getElem?_cons_succ,Sem.run_bind,run_underlying hu,run_underlying hd,Result.andThen_ok,Aj hk,Sem.run_pure,asInt,asIntOf,hwm,if_neg hl0,hti,if_neg hl1,if_true,Int.toNat_natCast,Bool.not_true];rw[if_neg (by omega)];simp only[Sem.run_bind,hti,Result.andThen_ok];rw[if_neg hmx];simp only[Sem.run_bind,hti,Result.andThen_ok];rw[if_neg h48];simp only[Sem.run_bind,run_choose_drew,hq,Bool.false_eq_true,if_false,Result.andThen_ok,hti,run_askRoom,hold,if_true,hnew,z1,newRow,run_newObj_alloc,Sem.run_pure,Question.cut,Nat.add_sub_cancel_left,World.size_drew]
theorem FJ (hi:Inv B0 w0 I H L w) {sT xT ty:TypeId}{s x:AV}{vs vx:Value} (hs:Rep I L s vs) (hx:Rep I L x vx) {r:AV}{H':List MB}
  (h:evAppZ P H sT xT s x=some (r,H')) :
  ∃ u w' I' L',(Builtin.append_ #[sT,xT] ty #[vs,vx]).run P w=.ok u w'/\Inv B0 w0 I' H' L' w'/\Ext I L I' L'/\Rep I' L' r u:=by
 unfold evAppZ at h;split at h
 ·rename_i e kd n he hxT;split at h
  ·rename_i k by_ ze hk hby hze;split at h
   ·rename_i hn;obtain⟨n0,n1,nb,nok⟩:=hn;have hcond:(List.replicate n.toNat ze).all (fun y=>decide (y.cells.length=k)&&y.cells.all AV.ok)=true/\0<k/\ze.cells.length=k:=by
     unfold appCore at h;split at h
     ·rename_i hc;exact hc
     ·cases h
    obtain⟨c1,c2,c3⟩:=hcond;obtain⟨m,rfl⟩:∃ m:Nat,n=m:=⟨n.toNat,by omega⟩;rw[Int.toNat_natCast]at h;obtain⟨zv,z1,z2⟩:=Cl hze;have hzs:zv.cells.size=k:=by rw[<- c3,z2,Hy]
    obtain⟨v,y1,y2,y3⟩:=BU (I:=I) (L:=L) hze nok;have hvz:v=zv:=by
     have:=(y1 w).symm.trans (z1 w);injection this
    rw[hvz]at y2;have hrow:RowRep I L k (List.replicate m ze) (Builtin.zeroCells zv.cells m):=by
     have:=DX (s:=k) (n:=m) y2 c3 c2;rw[hzs]at this;unfold Builtin.zeroCells;rw[hzs];exact this
    cases hx with
    | int _ _=>
      have hlen:(List.replicate m ze).length=m:=List.length_replicate;refine D0 (e:=e) (ty:=ty) hi hs hrow hrow (fun base sLen sCap hv hle=>?_) (fun base sLen sCap hv hgt hroom old hold=>?_) (fun _ h=>by cases h) (fun _ _ _ _ _ _ _ h=>by cases h) h
      ·rw[hlen]at hle |-;have ha:=(Dz (P:=P) (w:=w) (ty:=ty) he hxT hk hby (by omega) nb c2 z1 hzs hv).1 hle;cases base<;>exact ha
      ·rw[hlen]at hgt hroom |-;exact(Dz (P:=P) (w:=w) (ty:=ty) he hxT hk hby (by omega) nb c2 z1 hzs hv).2 hgt hroom old hold
   ·cases h
  ·cases h
 ·cases h
variable [VarTab]
set_option linter.unusedSectionVars false
open Go.RowKit Go.MapKept
variable {P:Program}{B0:Nat}{w0:Base}{w:World}{I:Imm}{H:List MB}{L:List Lay}
def KeyT (P:Program):KK->TypeId->Prop
 | .int k,kt=>P.underlying kt=some (.int k)
 | .str,kt=>P.underlying kt=some .string
 | .flat _ ks,kt=>flatKinds P kt=some (ks.map Option.isSome)/\keyKinds P kt=some ks
theorem Cd {t:TypeId}{q:KK}{e:TypeId} (h:kindT P t=some (q,e)):∃ kt,P.underlying t=some (.map kt e)/\KeyT P q kt:=by
 unfold kindT at h;split at h
 ·rename_i kt e' h1;split at h
  ·rename_i k h2;simp only[Option.some.injEq,Prod.mk.injEq]at h;obtain⟨rfl,rfl⟩:=h;exact⟨kt,h1,h2⟩
  ·rename_i h2;simp only[Option.some.injEq,Prod.mk.injEq]at h;obtain⟨rfl,rfl⟩:=h;exact⟨kt,h1,h2⟩
  ·split at h
   ·rename_i l ks h3 h4;split at h
    ·rename_i h5;simp only[Option.some.injEq,Prod.mk.injEq]at h;obtain⟨rfl,rfl⟩:=h;subst h5;exact⟨kt,h1,h3,h4⟩
    ·cases h
   ·cases h
 ·cases h
def cellV:AV->Value
 | .int k n=>.int k n
 | .bool b=>.bool b
 | _=>undef
theorem Bt:∀ {ks:List (Option IntKind)}{cs:List AV},cellsOk ks cs=true->cs.length=ks.length/\∀(i:Nat) (c:AV),cs[i]?=some c->(∃ k n,ks[i]?=some (some k)/\c=.int k n)∨(∃ b,ks[i]?=some none/\c=.bool b)
 | [],[],_=>⟨rfl,fun i c h=>by simp at h⟩
 | [],_::_,h=>by simp[cellsOk]at h
 | some k::ks,[],h=>by simp[cellsOk]at h
 | none::ks,[],h=>by simp[cellsOk]at h
 | some k::ks,c::cs,h=>by
   cases c<;>simp[cellsOk]at h;obtain⟨rfl,h⟩:=h;obtain⟨a,b⟩:=Bt h;exact⟨by simp[a],fun i c hc=>by
    cases i with
    | zero=>simp at hc;subst hc;exact .inl ⟨_,_,rfl,rfl⟩
    | succ i=>simpa using b i c (by simpa using hc)⟩
 | none::ks,c::cs,h=>by
   cases c<;>simp[cellsOk]at h;obtain⟨a,b⟩:=Bt h;exact⟨by simp[a],fun i c hc=>by
    cases i with
    | zero=>simp at hc;subst hc;exact .inr ⟨_,rfl,rfl⟩
    | succ i=>simpa using b i c (by simpa using hc)⟩
theorem CA {ks:List (Option IntKind)}{cs:List AV} (h:cellsOk ks cs=true) {v:Value} (hr:Rep I L (.agg cs) v):v=.agg (cs.map cellV).toArray:=by
 obtain⟨h1,h2⟩:=Bt h;cases hr with
 | agg _ ws hn hs hR=>
   congr 1;apply Array.ext
   ·simp[hn]
   ·intro i g1 g2;have hi:i<cs.length:=by rw[hn]at g1;exact g1
    have hc:cs[i]?=some cs[i]:=getElem?_eq_getElem hi;have hr:=hR i _ hc;have hg:ws.getD i undef=ws[i]:=by simp[Array.getD_eq_getD_getElem?,g1]
    rw[hg]at hr;simp only[List.getElem_toArray,List.getElem_map];generalize ws[i]=u at hr |-;rcases h2 i _ hc with ⟨k,n,_,e⟩|⟨b,_,e⟩
    ·rw[e]at hr |-;cases hr;rfl
    ·rw[e]at hr |-;cases hr;rfl
theorem Bu:∀ {ks:List (Option IntKind)}{cs ds:List AV},cellsOk ks cs=true->cellsOk ks ds=true->(AV.beqL cs ds=true↔cs.map cellV=ds.map cellV)
 | [],[],[],_,_=>by simp[AV.beqL]
 | [],_::_,_,h,_=>by simp[cellsOk]at h
 | [],[],_::_,_,h=>by simp[cellsOk]at h
 | some k::ks,[],_,h,_=>by simp[cellsOk]at h
 | some k::ks,_::_,[],_,h=>by simp[cellsOk]at h
 | none::ks,[],_,h,_=>by simp[cellsOk]at h
 | none::ks,_::_,[],_,h=>by simp[cellsOk]at h
 | some k::ks,c::cs,d::ds,h,h'=>by
   cases c<;>simp[cellsOk]at h;cases d<;>simp[cellsOk]at h';obtain⟨rfl,h⟩:=h;obtain⟨rfl,h'⟩:=h';simp[AV.beqL,AV.beq,cellV,Bu h h']
 | none::ks,c::cs,d::ds,h,h'=>by
   cases c<;>simp[cellsOk]at h;cases d<;>simp[cellsOk]at h';simp[AV.beqL,AV.beq,cellV,Bu h h']
theorem DH:∀ {ks:List (Option IntKind)}{cs ds:List AV},cellsOk ks cs=true->cellsOk ks ds=true->eqCells (ks.map Option.isSome) cs ds=some (AV.beqL cs ds)
 | [],[],[],_,_=>by simp[AV.beqL,eqCells]
 | [],_::_,_,h,_=>by simp[cellsOk]at h
 | [],[],_::_,_,h=>by simp[cellsOk]at h
 | some k::ks,[],_,h,_=>by simp[cellsOk]at h
 | some k::ks,_::_,[],_,h=>by simp[cellsOk]at h
 | none::ks,[],_,h,_=>by simp[cellsOk]at h
 | none::ks,_::_,[],_,h=>by simp[cellsOk]at h
 | some k::ks,c::cs,d::ds,h,h'=>by
   cases c<;>simp[cellsOk]at h;cases d<;>simp[cellsOk]at h';obtain⟨rfl,h⟩:=h;obtain⟨rfl,h'⟩:=h';simp only[map_cons,Option.isSome_some,eqCells,if_true,DH h h',Option.map_some,AV.beqL,AV.beq,decide_true,Bool.true_and];rfl
 | none::ks,c::cs,d::ds,h,h'=>by
   cases c<;>simp[cellsOk]at h;cases d<;>simp[cellsOk]at h';simp[AV.beqL,AV.beq,eqCells,DH h h']
theorem JV {kt:TypeId}{l:List Bool} (h:flatKinds P kt=some l):(match P.underlying kt with|some (.array _ _)|some (.struct _)=>true|_=>false)=true:=by
 unfold flatKinds at h;split at h
 ·rename_i fs hu;rw[hu]
 ·rename_i n e hu;rw[hu]
 ·cases h
theorem Ce {q:KK}{x y:AV}{u v:Value} (hx:keyOk q x=true) (hy:keyOk q y=true) (hu:Rep I L x u) (hv:Rep I L y v):(AV.beq x y=true↔u=v):=by
 cases q with
 | int k=>
   cases x<;>simp[keyOk]at hx;cases y<;>simp[keyOk]at hy;subst hx;subst hy;cases hu;cases hv;simp[AV.beq]
 | str=>
   cases x<;>simp[keyOk]at hx;cases y<;>simp[keyOk]at hy;cases hu;cases hv;simp[AV.beq]
 | flat T ks=>
   cases x<;>simp[keyOk]at hx;cases y<;>simp[keyOk]at hy;rw[CA hx hu,CA hy hv];simp only[AV.beq,Value.agg.injEq,Array.mk.injEq];exact Bu hx hy
theorem Gy (em:Bool) (d:Nat) {e:TypeId}{k:IntKind} (hu:P.underlying e=some (.int k)) {inf:TypeInfo} (hi:P.info? e=some inf) (hs:inf.size=1) (xs:Array Value) (n:Nat) (hx:∀ j,j<n->∃ k' m,xs[j]?=some (.int k' m)) {t:TypeId}
  (ht:P.underlying t=some (.array n e)):(Instr.checkKey em (d+2) t (.agg xs)).run P w=.ok () w:=by
 have hagg:tyAgg P e=some false:=by simp[tyAgg,hu]
 rw[Instr.checkKey];simp only[Sem.run_bind,run_underlying ht,Result.andThen_ok];simp only[Std.Legacy.Range.forIn_eq_forIn_range',Std.Legacy.Range.size,sub_zero,Nat.add_one_sub_one,Nat.div_one];have each:∀ j∈List.range' 0 n,∃ k' m,xs[j]?=some (.int k' m):=fun j hj=>hx j (by simp[List.mem_range']at hj;omega);generalize List.range' 0 n=is at each
 induction is with
 | nil=>simp
 | cons j is ih=>
   obtain⟨k',m,hj⟩:=each j (by simp);have p1:(part e xs (j*P.cellsOf e)).run P w=.ok (.int k' m) w:=by
    unfold part;have hc1:P.cellsOf e=1:=by simp[Program.cellsOf,hi,hs]
    simp only[Sem.run_bind,BZ hagg,Result.andThen_ok,Sem.run_ite,hc1,Nat.mul_one,hj];rfl
   have p2:(Instr.checkKey em (d+1) e (.int k' m)).run P w=.ok () w:=by
    simp[Instr.checkKey,run_underlying hu]
   simp only[List.forIn_cons,Sem.run_bind,run_sizeOf w hi,Result.andThen_ok,p1,p2,Sem.run_pure];exact ih (fun y hy=>each y (by simp[hy]))
theorem GD (em:Bool) (d:Nat) (xs:Array Value) {t:TypeId}{fs:Array Field} (ht:P.underlying t=some (.struct fs)) (hx:∀ f∈fs.toList,f.name ≠ "_"/\((∃ k k' m,P.underlying f.type=some (.int k)/\xs[f.offset]?=some (.int k' m))∨(∃ b,P.underlying f.type=some .bool/\xs[f.offset]?=some (.bool b)))) :
  (Instr.checkKey em (d+2) t (.agg xs)).run P w=.ok () w:=by
 rw[Instr.checkKey];simp only[Sem.run_bind,run_underlying ht,Result.andThen_ok];rw[<- Array.forIn_toList];generalize fs.toList=M at hx
 induction M with
 | nil=>simp
 | cons f M ih=>
   obtain⟨hn,hf⟩:=hx f (by simp);have key:∃ a,(part f.type xs f.offset).run P w=.ok a w/\(Instr.checkKey em (d+1) f.type a).run P w=.ok () w:=by
    rcases hf with ⟨k,k',m,hu,hj⟩|⟨b,hu,hj⟩
    ·have hagg:tyAgg P f.type=some false:=by simp[tyAgg,hu]
     refine⟨.int k' m,?_,by simp[Instr.checkKey,run_underlying hu]⟩;unfold part;simp only[Sem.run_bind,BZ hagg,Result.andThen_ok,Sem.run_ite,hj];rfl
    ·have hagg:tyAgg P f.type=some false:=by simp[tyAgg,hu]
     refine⟨.bool b,?_,by simp[Instr.checkKey,run_underlying hu]⟩;unfold part;simp only[Sem.run_bind,BZ hagg,Result.andThen_ok,Sem.run_ite,hj];rfl
   obtain⟨a,p1,p2⟩:=key;simp only[List.forIn_cons,Sem.run_bind,hn,ne_eq,not_false_eq_true,if_true,Result.andThen_ok,p1,p2,Sem.run_pure];exact ih (fun y hy=>hx y (by simp[hy]))
theorem C4:∀(fs:List Field) (i:Nat) (ks:List (Option IntKind)) (l:List Bool),cellKinds P fs=some ks->flatFields P i fs=some l->∀ f∈fs,f.name ≠ "_"/\∃ j,f.offset=i+j/\((∃ k,ks[j]?=some (some k)/\P.underlying f.type=some (.int k))∨(ks[j]?=some none/\P.underlying f.type=some .bool))
 | [],_,_,_,_,_,f,hf=>by cases hf
 | g::fs,i,ks,l,hk,hl,f,hf=>by
   simp only[flatFields]at hl;split at hl
   ·rename_i hc;obtain⟨c1,c2⟩:=hc;cases hu:P.underlying g.type with
    | none=>simp[cellKinds,hu]at hk
    | some d=>
      cases hks:cellKinds P fs with
      | none=>cases d<;>simp[cellKinds,hu,hks]at hk
      | some ks'=>
        cases hls:flatFields P (i+1) fs with
        | none=>cases d<;>simp[hu,hls]at hl
        | some l'=>
          have ih:=C4 fs (i+1) ks' l' hks hls;rcases List.mem_cons.1 hf with rfl|hf
          ·cases d<;>simp[cellKinds,hu,hks]at hk
           ·subst hk;exact⟨c2,0,c1,.inr ⟨rfl,hu⟩⟩
           ·subst hk;exact⟨c2,0,c1,.inl ⟨_,rfl,hu⟩⟩
          ·obtain⟨a1,j,a2,a3⟩:=ih f hf;refine⟨a1,j+1,by omega,?_⟩;cases d<;>simp[cellKinds,hu,hks]at hk
           ·subst hk;simpa using a3
           ·subst hk;simpa using a3
   ·cases hl
theorem FW {q:KK}{kt:TypeId} (hq:KeyT P q kt) {x:AV}{u:Value} (hx:keyOk q x=true) (hu:Rep I L x u) (em:Bool):(Instr.checkKey em 10000 kt u).run P w=.ok () w:=by
 cases q with
 | int k=>
   cases x<;>simp[keyOk]at hx;cases hu;have hq:P.underlying kt=some (.int k):=hq;show (Instr.checkKey em (9999+1) kt _).run P w=_;rw[Instr.checkKey];simp[run_underlying hq]
 | str=>
   cases x<;>simp[keyOk]at hx;cases hu;have hq:P.underlying kt=some .string:=hq;show (Instr.checkKey em (9999+1) kt _).run P w=_;rw[Instr.checkKey];simp[run_underlying hq]
 | flat T ks=>
   obtain⟨q1,q2⟩:=hq;cases x<;>simp[keyOk]at hx;rename_i cs;rw[CA hx hu];obtain⟨h1,h2⟩:=Bt hx;unfold flatKinds at q1;unfold keyKinds at q2;split at q1
   ·rename_i fs hus;rw[hus]at q2;simp only at q2;split at q1
    ·refine GD em 9998 _ hus fun f hf=>?_;obtain⟨a1,j,a2,a3⟩:=C4 fs.toList 0 ks _ q2 q1 f hf;refine⟨a1,?_⟩;rw[zero_add]at a2;rw[a2];rcases a3 with ⟨k,b1,b2⟩|⟨b1,b2⟩
     ·have hj:j<cs.length:=by rw[h1];exact(List.getElem?_eq_some_iff.1 b1).1
      rcases h2 j _ (getElem?_eq_getElem hj) with ⟨k',n,c1,c2⟩|⟨b,c1,c2⟩
      ·exact .inl ⟨k,k',n,b2,by simp[hj,c2,cellV]⟩
      ·rw[b1]at c1;cases c1
     ·have hj:j<cs.length:=by rw[h1];exact(List.getElem?_eq_some_iff.1 b1).1
      rcases h2 j _ (getElem?_eq_getElem hj) with ⟨k',n,c1,c2⟩|⟨b,c1,c2⟩
      ·rw[b1]at c1;cases c1
      ·exact .inr ⟨b,b2,by simp[hj,c2,cellV]⟩
    ·cases q1
   ·rename_i n e hus;rw[hus]at q2;simp only at q2;split at q1
    ·split at q1
     ·rename_i k hue hse;rw[hue]at q2;simp only[Option.some.injEq]at q2;subst q2;obtain⟨inf,hinf,hsz⟩:∃ inf,P.info? e=some inf/\inf.size=1:=by
       unfold tySz at hse;cases hi:P.info? e with
       | none=>rw[hi]at hse;simp at hse
       | some inf=>rw[hi]at hse;simp at hse;exact⟨inf,rfl,hse⟩
      refine Gy em 9998 hue hinf hsz _ n (fun j hj=>?_) hus;have hj':j<cs.length:=by rw[h1];simpa using hj
      rcases h2 j _ (getElem?_eq_getElem hj') with ⟨k',m,c1,c2⟩|⟨b,c1,c2⟩
      ·exact⟨k',m,by simp[hj',c2,cellV]⟩
      ·rw[List.getElem?_replicate,if_pos hj]at c1;cases c1
     ·cases q1
    ·cases q1
   ·cases q1
theorem IS {q:KK}{x:AV}{u:Value} (hx:keyOk q x=true) (hu:Rep I L x u):(Instr.keyThatStays u u).run P w=.ok u w:=by
 have hs:Instr.sameBits 10000 u u=true:=by
  cases q with
  | int k=>cases x<;>simp[keyOk]at hx;cases hu;simp[Instr.sameBits]
  | str=>cases x<;>simp[keyOk]at hx;cases hu;simp[Instr.sameBits,MapKept.bytes_beq]
  | flat T ks=>
    cases x<;>simp[keyOk]at hx;rename_i cs;rw[CA hx hu];obtain⟨h1,h2⟩:=Bt hx;show Instr.sameBits (9999+1) _ _=true;simp only[Instr.sameBits,beq_self_eq_true,Bool.true_and,all_eq_true];intro p hp;obtain⟨i,hi,e⟩:=List.getElem_of_mem hp;rw[List.getElem_zip]at e;rw[<- e];simp only[List.getElem_map];have hi':i<cs.length:=by simpa using hi
    rcases h2 i _ (getElem?_eq_getElem hi') with ⟨k,n,_,c⟩|⟨b,_,c⟩
    ·simp[c,cellV,Instr.sameBits]
    ·simp[c,cellV,Instr.sameBits]
 simp[Instr.keyThatStays,hs]
def EntsOk (I:Imm) (L:List Lay) (q:KK) (es:List (AV×AV)) (ents:List MapEntry):Prop:=
 ents.length=es.length/\∀(i:Nat) (k v:AV),es[i]?=some (k,v)->keyOk q k=true/\∃ e:MapEntry,ents[i]?=some e/\Rep I L k e.key/\Rep I L v e.val
theorem EntsOk.tail {q:KK}{p:AV×AV}{es:List (AV×AV)}{e:MapEntry}{ents:List MapEntry} (h:EntsOk I L q (p::es) (e::ents)):EntsOk I L q es ents:=
 ⟨by have:=h.1;simpa using this,fun i k v hi=>by simpa using h.2 (i+1) k v (by simpa using hi)⟩
theorem EntsOk.head {q:KK}{k v:AV}{es:List (AV×AV)}{e:MapEntry}{ents:List MapEntry} (h:EntsOk I L q ((k,v)::es) (e::ents)):keyOk q k=true/\Rep I L k e.key/\Rep I L v e.val:=by
 obtain⟨h1,e',h2,h3,h4⟩:=h.2 0 k v rfl;simp at h2;subst h2;exact⟨h1,h3,h4⟩
theorem Kb {k:IntKind}{x y:AV}{u v:Value} (hx:keyOk (.int k) x=true) (hy:keyOk (.int k) y=true) (hu:Rep I L x u) (hv:Rep I L y v):Instr.sameNow (.int k) u v=some (AV.beq x y):=by
 cases x<;>simp[keyOk]at hx;cases y<;>simp[keyOk]at hy;subst hx;subst hy;cases hu;cases hv;simp only[AV.beq,Instr.sameNow,if_true,decide_true,Bool.true_and];rfl
theorem JW {x y:AV}{u v:Value} (hx:keyOk .str x=true) (hy:keyOk .str y=true) (hu:Rep I L x u) (hv:Rep I L y v):Instr.sameNow .string u v=some (AV.beq x y):=by
 cases x<;>simp[keyOk]at hx;cases y<;>simp[keyOk]at hy;cases hu;cases hv;rename_i a b;simp only[AV.beq,Instr.sameNow,Option.some.injEq];rw[Bool.eq_iff_iff];simp[MapKept.bytes_beq]
theorem Dc {q:KK}{x:AV}{u:Value} (hx:keyOk q x=true) (hu:Rep I L x u) (G:List MapEntry->Nat->Result (Option (Nat×Value))->Prop) (hnil:∀ i,G [] i (.ok none w))
  (hcons:∀(y v:AV) (e:MapEntry) (es:List MapEntry) (i:Nat),keyOk q y=true->Rep I L y e.key->(AV.beq y x=true->G (e::es) i (.ok (some (i,e.val)) w))/\(AV.beq y x=false->∀ r,G es (i+1) r->G (e::es) i r)) :
  ∀ {es:List (AV×AV)}{ents:List MapEntry} (i:Nat),EntsOk I L q es ents ->
    (findMp x es=none/\G ents i (.ok none w)/\(∀ v,updMp x v es=es++[(x,v)])) ∨
    ∃(j:Nat) (v:AV) (e:MapEntry) (k:AV),findMp x es=some v/\G ents i (.ok (some (i+j,e.val)) w)/\ents[j]?=some e/\es[j]?=some (k,v)/\e.key=u/\Rep I L v e.val/\(∀ v',updMp x v' es=es.set j (k,v'))
 | [],[],i,_=>.inl ⟨rfl,hnil i,fun v=>rfl⟩
 | [],e::ents,i,h=>by have:=h.1;simp at this
 | p::es,[],i,h=>by have:=h.1;simp at this
 | (k,v)::es,e::ents,i,h=>by
   obtain⟨a1,a2,a3⟩:=h.head;have hk:=Ce a1 hx a2 hu;obtain⟨g1,g2⟩:=hcons k v e ents i a1 a2;cases hb:AV.beq k x with
   | true=>exact .inr ⟨0,v,e,k,by simp[findMp,hb],g1 hb,rfl,rfl,hk.1 hb,a3,fun v'=>by simp[updMp,hb]⟩
   | false=>
     rcases Dc hx hu G hnil hcons (i+1) h.tail with ⟨b1,b2,b3⟩|⟨j,v',e',k',b1,b2,b3,b4,b5,b6,b7⟩
     ·exact .inl ⟨by simp[findMp,hb,b1],g2 hb _ b2,fun v'=>by simp[updMp,hb,b3]⟩
     ·exact .inr ⟨j+1,v',e',k',by simp[findMp,hb,b1],by have:=g2 hb _ b2;rwa [show i+1+j=i+(j+1) by omega]at this,by simpa using b3,by simpa using b4,b5,b6,fun v''=>by simp[updMp,hb,b7]⟩
theorem G8 {T:TypeId}{xs ys:List AV}{a b:Value} (hx:Rep I L (.agg xs) a) (hy:Rep I L (.agg ys) b) {l:List Bool} (hl:flatKinds P T=some l) {r:Bool} (h:eqCells l xs ys=some r) (w:World) :
  (Op.equal T a b).run P w=.ok r w:=by
 cases hx with
 | agg _ ws hn hs hR=>
   cases hy with
   | agg _ ws' hn' hs' hR'=>
     show (Op.equalIn 10000 T (.agg ws) (.agg ws')).run P w=.ok r w;unfold flatKinds at hl;split at hl
     ·rename_i fs hu;split at hl
      ·rename_i hst;obtain⟨s1,s2⟩:=hst;have hu':P.underlying T=some (.struct (P.fieldsOf T)):=by simp[Program.fieldsOf,hu]
       have hfs:P.fieldsOf T=fs:=by simp[Program.fieldsOf,hu]
       rw[run_equalIn_struct w 9999 T ws ws' hu' s1,hfs];refine Bf (I:=I) (L:=L) 9998 ws ws' fs.toList 0 l xs ys r hl h (fun j c hj=>?_) (fun j c hj=>?_) w
       ·have hlt:j<ws.size:=by rw[hn];exact(List.getElem?_eq_some_iff.1 hj).1
        exact⟨by simp[hlt],by simpa using hR j c hj⟩
       ·have hlt:j<ws'.size:=by rw[hn'];exact(List.getElem?_eq_some_iff.1 hj).1
        exact⟨by simp[hlt],by simpa using hR' j c hj⟩
      ·simp at hl
     ·rename_i n e hu;split at hl
      ·split at hl
       ·rename_i k hue hse;simp at hl;subst hl;obtain⟨inf,hinf,hsz⟩:∃ inf,P.info? e=some inf/\inf.size=1:=by
         unfold tySz at hse;cases hi:P.info? e with
         | none=>rw[hi]at hse;simp at hse
         | some inf=>rw[hi]at hse;simp at hse;exact⟨inf,rfl,hse⟩
        have hc1:P.cellsOf e=1:=by simp[Program.cellsOf,hinf,hsz]
        rw[run_equalIn_array w 9999 ws ws' hu hinf,hc1,List.range_eq_range'];refine CE (I:=I) (L:=L) 9998 e hue ws ws' n 0 xs ys r h (fun j c hj=>?_) (fun j c hj=>?_) w
        ·have hlt:j<ws.size:=by rw[hn];exact(List.getElem?_eq_some_iff.1 hj).1
         exact⟨by simp[hlt],by simpa using hR j c hj⟩
        ·have hlt:j<ws'.size:=by rw[hn'];exact(List.getElem?_eq_some_iff.1 hj).1
         exact⟨by simp[hlt],by simpa using hR' j c hj⟩
       ·simp at hl
      ·simp at hl
     ·simp at hl
theorem Ih {ks:List (Option IntKind)}{cs ds:List AV} (h:cellsOk ks cs=true) (h':cellsOk ks ds=true):AV.beqL cs ds=AV.beqL ds cs:=by
 rw[Bool.eq_iff_iff,Bu h h',Bu h' h,eq_comm]
theorem Dd {q:KK}{kt:TypeId} (hq:KeyT P q kt) {x:AV}{u:Value} (hx:keyOk q x=true) (hu:Rep I L x u) {es:List (AV×AV)}{ents:List MapEntry} (h:EntsOk I L q es ents) :
   (findMp x es=none/\(Instr.findKey kt u ents).run P w=.ok none w/\(∀ v,updMp x v es=es++[(x,v)])) ∨
   ∃(j:Nat) (v:AV) (e:MapEntry) (k:AV),findMp x es=some v/\(Instr.findKey kt u ents).run P w=.ok (some (j,e.val)) w/\ents[j]?=some e/\es[j]?=some (k,v)/\e.key=u/\Rep I L v e.val/\(∀ v',updMp x v' es=es.set j (k,v')):=by
 have now:∀(d:TypeDesc),P.underlying kt=some d->(∀(y:AV) (v:Value),keyOk q y=true->Rep I L y v->Instr.sameNow d u v=some (AV.beq y x)) ->
   (findMp x es=none/\(Instr.findKey kt u ents).run P w=.ok none w/\(∀ v,updMp x v es=es++[(x,v)])) ∨
   ∃(j:Nat) (v:AV) (e:MapEntry) (k:AV),findMp x es=some v/\(Instr.findKey kt u ents).run P w=.ok (some (j,e.val)) w/\ents[j]?=some e/\es[j]?=some (k,v)/\e.key=u/\Rep I L v e.val/\(∀ v',updMp x v' es=es.set j (k,v')):=by
  intro d hd hs;have run:∀ r,(∃ a,Instr.findNow d u ents 0=some a/\r=.ok a w)->(Instr.findKey kt u ents).run P w=r:=by
   rintro r ⟨a,ha,rfl⟩;exact MapKept.run_findKey hd ha
  rcases Dc (w:=w) hx hu (fun es i r=>∃ a,Instr.findNow d u es i=some a/\r=.ok a w) (fun i=>⟨_,rfl,rfl⟩)
   (fun y v e es i hy hr=>⟨fun hb=>⟨_,by simp[Instr.findNow,hs y _ hy hr,hb],rfl⟩,fun hb r ⟨a,ha,hr'⟩=>⟨a,by simp[Instr.findNow,hs y _ hy hr,hb,ha],hr'⟩⟩) 0 h with ⟨b1,b2,b3⟩|⟨j,v,e,k,b1,b2,b3,b4,b5,b6,b7⟩
  ·exact .inl ⟨b1,run _ b2,b3⟩
  ·exact .inr ⟨j,v,e,k,b1,by have:=run _ b2;rwa [zero_add]at this,b3,b4,b5,b6,b7⟩
 cases q with
 | int k=>
   refine now _ hq fun y v hy hr=>?_;rw[Kb hx hy hu hr];congr 1;rw[Bool.eq_iff_iff,Ce hx hy hu hr,Ce hy hx hr hu,eq_comm]
 | str=>
   refine now _ hq fun y v hy hr=>?_;rw[JW hx hy hu hr];congr 1;rw[Bool.eq_iff_iff,Ce hx hy hu hr,Ce hy hx hr hu,eq_comm]
 | flat T ks=>
   obtain⟨q1,q2⟩:=hq;have hw:=JV q1;have run:∀ r,(Instr.findAsking kt u ents 0).run P w=r->(Instr.findKey kt u ents).run P w=r:=by
    intro r hr;rw[run_findKey_eq w hw];exact hr
   have heq:∀(y:AV) (v:Value),keyOk (.flat T ks) y=true->Rep I L y v->(Op.equal kt u v).run P w=.ok (AV.beq y x) w:=by
    intro y v hy hr;cases x<;>simp[keyOk]at hx;cases y<;>simp[keyOk]at hy;rw[G8 hu hr q1 (DH hx hy) w];simp only[AV.beq];rw[Ih hx hy]
   rcases Dc (w:=w) hx hu (fun es i r=>(Instr.findAsking kt u es i).run P w=r) (fun i=>by simp[Instr.findAsking])
    (fun y v e es i hy hr=>⟨fun hb=>by simp[Instr.findAsking,heq y _ hy hr,hb],fun hb r hr'=>by simp[Instr.findAsking,heq y _ hy hr,hb,hr']⟩) 0 h with ⟨b1,b2,b3⟩|⟨j,v,e,k,b1,b2,b3,b4,b5,b6,b7⟩
   ·exact .inl ⟨b1,run _ b2,b3⟩
   ·exact .inr ⟨j,v,e,k,b1,by have:=run _ b2;rwa [zero_add]at this,b3,b4,b5,b6,b7⟩
theorem Inv.newObj (hi:Inv B0 w0 I H L w) (o:Obj) (m:MB) (hok:MbOk B0 I (L++[⟨0,0,w.heap.size,1,0,0⟩]) (w.alloc o) m ⟨0,0,w.heap.size,1,0,0⟩) :
  Inv B0 w0 I (H++[m]) (L++[⟨0,0,w.heap.size,1,0,0⟩]) (w.alloc o)/\Ext I L I (L++[⟨0,0,w.heap.size,1,0,0⟩]):=by
 have hx:=CK I L ⟨0,0,w.heap.size,1,0,0⟩;have h0:Inv B0 w0 I H L (w.alloc o):=hi.same (hi.below.alloc hi.base _) (by rw[World.size_alloc];exact Nat.le_succ_of_le hi.base) (fun b hb=>Below.heap_alloc _ _ _ hb);refine⟨⟨h0.below,h0.base,by simp[hi.len],fun id m l hm hl=>?_,fun i j l l' h1 h2 n1 n2 h3=>?_,h0.imm,h0.old⟩,hx⟩
 ·by_cases hid:id<L.length
  ·rw[getElem?_append_left hid]at hl;rw[getElem?_append_left (by rw[<- hi.len];exact hid)]at hm;exact MbOk.mono hx (fun _ _=>rfl) (h0.blk id m l hm hl)
  ·have hid':id=L.length:=by
    have:=(List.getElem?_eq_some_iff.1 hl).1;simp at this;omega
   subst hid';rw[getElem?_append_right (le_refl _)]at hl;rw[hi.len,getElem?_append_right (le_refl _)]at hm;simp at hl hm;subst hl;subst hm;exact hok
 ·by_cases h1':i<L.length
  ·rw[getElem?_append_left h1']at h1;by_cases h2':j<L.length
   ·rw[getElem?_append_left h2']at h2;exact hi.inj i j l l' h1 h2 n1 n2 h3
   ·rw[getElem?_append_right (by omega)]at h2;have:=hi.lay_lt h1 n1;have h4:l'.b=w.heap.size:=by
     have:=mem_of_getElem? h2;simp at this;rw[this]
    omega
  ·rw[getElem?_append_right (by omega)]at h1;have h4:l.b=w.heap.size:=by
    have:=mem_of_getElem? h1;simp at this;rw[this]
   by_cases h2':j<L.length
   ·rw[getElem?_append_left h2']at h2;have:=hi.lay_lt h2 n2;omega
   ·have h5:=(List.getElem?_eq_some_iff.1 h1).1;rw[getElem?_append_right (by omega)]at h2;have h6:=(List.getElem?_eq_some_iff.1 h2).1;simp at h5 h6;omega
theorem Inv.newMap (hi:Inv B0 w0 I H L w) (q:KK) :
  Inv B0 w0 I (H++[.mp q []]) (L++[⟨0,0,w.heap.size,1,0,0⟩]) (w.alloc (.map #[] 0))/\Ext I L I (L++[⟨0,0,w.heap.size,1,0,0⟩]):=
 hi.newObj (.map #[] 0) (.mp q []) ⟨rfl,by simp,hi.base,⟨#[],0,(MapKept.heap_alloc w _).1,rfl,fun i k v h=>by simp at h⟩,fun c=>hi.imm_new c⟩
theorem Inv.setObj (hi:Inv B0 w0 I H L w) {id:Nat}{m0 m':MB}{l:Lay} (hm:H[id]?=some m0) (hl:L[id]?=some l) (hn:l.n≠0) (hB:B0<=l.b) (hfr:∀ c,I l.b c=none) {o0 o':Obj} (e0:w.heap[l.b]?=some o0) (hdf:∀ x,o0≠.deferred x)
  (hok:MbOk B0 I L { w with heap:=w.heap.setIfInBounds l.b o' } m' l):Inv B0 w0 I (H.set id m') L { w with heap:=w.heap.setIfInBounds l.b o' }:=by
 obtain⟨g1,g2⟩:=heap_set (o':=o') e0;have hid:id<H.length:=(List.getElem?_eq_some_iff.1 hm).1;have hbl:BelowD B0 w0.w { w with heap:=w.heap.setIfInBounds l.b o' }:=
  hi.below.step ⟨rfl,rfl,rfl,by simp,fun k hk=>g2 k (by omega)⟩
 refine⟨hbl,by simp;exact hi.base,by simp[hi.len],fun id2 m2 l2 hm2 hl2=>?_,hi.inj,⟨fun b o v h=>?_,fun D hD=>?_⟩,hi.old⟩
 ·by_cases e:id=id2
  ·subst e;rw[getElem?_set_self hid]at hm2;obtain rfl:=Option.some.inj hm2;rw[hl]at hl2;obtain rfl:=Option.some.inj hl2;exact hok
  ·rw[List.getElem?_set_ne e]at hm2;have h1:=hi.blk id2 m2 l2 hm2 hl2;exact h1.heap fun hn2=>g2 _ fun h=>e (hi.inj id id2 l l2 hl hl2 hn hn2 h.symm)
 ·have hne:b≠l.b:=fun e=>by
   subst e;rw[hfr o]at h;cases h
  exact Bj (hi.imm.c b o v h) (g2 _ hne)
 ·have h1:=hi.imm.g D hD;have hne:D≠l.b:=fun e=>by rw[e,e0]at h1;exact hdf _ (Option.some.inj h1)
  exact(g2 _ hne).trans h1
theorem Inv.setMap (hi:Inv B0 w0 I H L w) {id:Nat}{q:KK}{es es':List (AV×AV)}{l:Lay} (hm:H[id]?=some (.mp q es)) (hl:L[id]?=some l) {ents:Array MapEntry} (clock:Nat)
  (he:EntsOk I L q es' ents.toList):Inv B0 w0 I (H.set id (.mp q es')) L { w with heap:=w.heap.setIfInBounds l.b (.map ents clock) }:=by
 have hb:=hi.blk id _ l hm hl;obtain⟨ents0,clock0,e0,_⟩:=MapOk.obj hb;refine hi.setObj hm hl (MapOk.hn hb) (MapOk.hB hb) (MapOk.free hb) e0 (fun x h=>by cases h) ?_;exact⟨MapOk.ht hb,MapOk.hn hb,MapOk.hB hb,⟨ents,clock,(heap_set e0).1,by simpa using he.1,fun i k v h=>by
  obtain⟨f1,u,f2,f3⟩:=he.2 i k v h;exact⟨f1,u,by simpa using f2,f3⟩⟩,MapOk.free hb⟩
theorem D7 (hi:Inv B0 w0 I H L w) {id:Nat}{q:KK}{es:List (AV×AV)} (hm:getMp H id=some (q,es)) {v:Value} (hr:Rep I L (.mpr id) v) :
  ∃ l ents clock,L[id]?=some l/\v=.map (some l.b)/\w.heap[l.b]?=some (.map ents clock)/\EntsOk I L q es ents.toList/\H[id]?=some (.mp q es):=by
 have hH:H[id]?=some (.mp q es):=by
  unfold getMp at hm;split at hm
  ·rename_i q' es' h;simp only[Option.some.injEq,Prod.mk.injEq]at hm;obtain⟨rfl,rfl⟩:=hm;exact h
  ·cases hm
 cases hr with
 | mpr _ l b hL hv=>
   have hb:=hi.blk id _ l hH hL;obtain⟨ents,clock,e,e2,e3⟩:=MapOk.obj hb;refine⟨l,ents,clock,hL,by rw[hv (MapOk.ht hb)],e,⟨by simpa using e2,fun i k v h=>?_⟩,hH⟩;obtain⟨f1,u,f2,f3⟩:=e3 i k v h;exact⟨f1,u,by simpa using f2,f3⟩
theorem E7 (hi:Inv B0 w0 I H L w) {t:TypeId}{q:KK}{e:TypeId} (hk:kindT P t=some (q,e)) {r:Option AV}{rv:Option Value} (hr:resOk r=true)
  (hrr:match r,rv with
    | none,none=>True
    | some x,some v=>Rep I L x v
    | _,_=>False) :
  ∃ u w' L',(Instr.makeMap t rv).run P w=.ok u w'/\Inv B0 w0 I (H++[.mp q []]) L' w'/\Ext I L I L'/\Rep I L' (.mpr H.length) u:=by
 obtain⟨kt,h1,h2⟩:=Cd hk;obtain⟨i1,i2⟩:=hi.newMap q;refine⟨.map (some w.heap.size),_,_,?_,i1,i2,.mpr _ ⟨0,0,w.heap.size,1,0,0⟩ _ (by rw[<- hi.len];simp) (fun _=>rfl)⟩;cases r with
 | none=>
   cases rv with
   | none=>simp[Instr.makeMap,Result.andThen]
   | some v=>exact hrr.elim
 | some x=>
   cases rv with
   | none=>exact hrr.elim
   | some v=>
     simp only at hrr;cases x<;>simp[resOk]at hr;cases hrr;simp[Instr.makeMap,run_underlying h1,asInt,asIntOf,Result.andThen]
theorem Fx (hi:Inv B0 w0 I H L w) {t:TypeId}{x i:AV}{vx vi:Value} (hx:Rep I L x vx) (hiv:Rep I L i vi) {c:Bool}{r:AV} (h:evLookup P H t x i c=some r) :
  ∃ u,(Instr.lookup t vx vi c).run P w=.ok u w/\Rep I L r u:=by
 have two:∀(v:AV) (u:Value) (b:Bool),Rep I L v u->Rep I L (if c=true then .tup [v,.bool b] else v) (if c then .tuple #[u,.bool b] else u):=by
  intro v u b hv;cases c with
  | false=>exact hv
  | true=>exact .tup _ _ rfl (fun i y h=>by
     match i,h with
     | 0,h=>simp at h;subst h;simpa using hv
     | 1,h=>simp at h;subst h;simpa using Rep.bool b
     | i+2,h=>simp at h)
 unfold evLookup at h;split at h
 ·rename_i q e hk;obtain⟨kt,h1,h2⟩:=Cd hk;split at h
  ·rename_i hko;have hkey:=fun em=>FW (w:=w) h2 hko hiv em
   have core:∀(es:List (AV×AV)) (ents:Array MapEntry),EntsOk I L q es ents.toList ->
     (match (some (findMp i es):Option (Option AV)) with
       | some (some v)=>some (if c=true then .tup [v,.bool true] else v)
       | some none=>match tyZero P e with
         | some z=>if z.cells.all AV.ok=true then some (if c=true then .tup [z,.bool false] else z) else none
         | none=>none
       | none=>none)=some r ->
     (∃ zv,(Instr.findKey kt vi ents.toList).run P w=.ok none w/\(∀ w,(zeroValue e).run P w=.ok zv w)/\Rep I L r (if c then .tuple #[zv,.bool false] else zv)) ∨
     (∃ p:Nat×Value,(Instr.findKey kt vi ents.toList).run P w=.ok (some p) w/\Rep I L r (if c then .tuple #[p.2,.bool true] else p.2)):=by
    intro es ents hents hq;rcases Dd (w:=w) h2 hko hiv hents with ⟨a1,a2,a3⟩|⟨j,v,en,k,a1,a2,a3,a4,a5,a6,a7⟩
    ·rw[a1]at hq;simp only at hq;split at hq
     ·rename_i z hz;split at hq
      ·rename_i hok;obtain⟨zv,z1,z2,z3⟩:=BU (I:=I) (L:=L) hz hok;simp only[Option.some.injEq]at hq;subst hq;exact .inl ⟨zv,a2,z1,two z zv false z3⟩
      ·cases hq
     ·cases hq
    ·rw[a1]at hq;simp only[Option.some.injEq]at hq;subst hq;exact .inr ⟨_,a2,two v en.val true a6⟩
   cases x
   case nilm=>
    cases hx;rcases core [] #[] ⟨rfl,fun i k v h=>by simp at h⟩ h with ⟨zv,f1,f2,f3⟩|⟨p,f1,f3⟩
    ·refine⟨_,?_,f3⟩;cases c<;>simp[Instr.lookup,run_underlying h1,hkey,f1,f2,Result.andThen]
    ·rcases Dd (w:=w) (es:=[]) (ents:=[]) h2 hko hiv ⟨rfl,fun i k v h=>by simp at h⟩ with ⟨_,g,_⟩|⟨j,_,e,_,_,_,g,_⟩
     ·have f1:(Instr.findKey kt vi []).run P w=.ok (some p) w:=f1;rw[g]at f1;cases f1
     ·simp at g
   case mpr id=>
    simp only at h;cases hg:getMp H id with
    | none=>rw[hg]at h;simp at h
    | some p=>
      obtain⟨q',es⟩:=p;rw[hg]at h;simp only at h;obtain⟨l,ents,clock,e1,rfl,e3,e4,e5⟩:=D7 hi hg hx;by_cases hqq:q' = q
      ·subst hqq;rw[if_pos rfl]at h;rcases core es ents e4 h with ⟨zv,f1,f2,f3⟩|⟨p,f1,f3⟩
       ·refine⟨_,?_,f3⟩;cases c<;>simp[Instr.lookup,run_underlying h1,MapKept.run_getObj_map e3,hkey,f1,f2,Result.andThen]
       ·refine⟨_,?_,f3⟩;cases c<;>simp[Instr.lookup,run_underlying h1,MapKept.run_getObj_map e3,hkey,f1,Result.andThen]
      ·rw[if_neg hqq]at h;simp at h
   all_goals simp at h
  ·cases h
 ·cases h
theorem DT (hi:Inv B0 w0 I H L w) {t:TypeId}{m k v:AV}{vm vk vv:Value} (hm:Rep I L m vm) (hk:Rep I L k vk) (hv:Rep I L v vv) {H':List MB} (h:evMapUpd P H t m k v=some H') :
  ∃ w',(Instr.mapUpdate t vm vk vv).run P w=.ok () w'/\Inv B0 w0 I H' L w':=by
 unfold evMapUpd at h;split at h
 ·rename_i q e id hkt;obtain⟨kt,h1,h2⟩:=Cd hkt;split at h
  ·rename_i q' es hg;split at h
   ·rename_i hc;obtain⟨rfl,hko⟩:=hc;simp only[Option.some.injEq]at h;subst h;obtain⟨l,ents,clock,e1,rfl,e3,e4,e5⟩:=D7 hi hg hm;have hkey:=fun em=>FW (w:=w) h2 hko hk em;have hst:=IS (P:=P) (w:=w) hko hk;rcases Dd (w:=w) h2 hko hk e4 with ⟨a1,a2,a3⟩|⟨j,v0,en,k0,a1,a2,a3,a4,a5,a6,a7⟩
    ·refine⟨_,?_,hi.setMap e5 e1 (ents:=ents.push { key:=vk,val:=vv,born:=clock }) (clock+1) ?_⟩
     ·simp[Instr.mapUpdate,run_underlying h1,MapKept.run_getObj_map e3,hkey,a2,MapKept.run_setObj_map _ e3,Result.andThen]
     ·rw[a3];refine⟨by simp[<- e4.1],fun i kk u hiu=>?_⟩;by_cases hlt:i<es.length
      ·rw[getElem?_append_left hlt]at hiu;obtain⟨f1,en,f2,f3⟩:=e4.2 i kk u hiu;refine⟨f1,en,?_,f3⟩;rw[Array.toList_push,getElem?_append_left (by rw[e4.1];exact hlt)];exact f2
      ·have hie:i=es.length:=by
        have:=(List.getElem?_eq_some_iff.1 hiu).1;simp at this;omega
       subst hie;simp at hiu;obtain⟨rfl,rfl⟩:=hiu;refine⟨hko,{ key:=vk,val:=vv,born:=clock },?_,hk,hv⟩;rw[Array.toList_push,getElem?_append_right (by rw[e4.1];exact le_refl _),e4.1];simp
    ·have hj:ents[j]?=some en:=by simpa using a3
     refine⟨_,?_,hi.setMap e5 e1 (ents:=ents.modify j fun e=>{ e with key:=vk,val:=vv }) clock ?_⟩
     ·simp[Instr.mapUpdate,run_underlying h1,MapKept.run_getObj_map e3,hkey,a2,hj,a5,hst,MapKept.run_setObj_map _ e3,Result.andThen]
     ·rw[a7];refine⟨by simp[<- e4.1],fun i kk u hiu=>?_⟩;by_cases hij:j=i
      ·subst hij;rw[getElem?_set_self (List.getElem?_eq_some_iff.1 a4).1]at hiu;simp at hiu;obtain⟨rfl,rfl⟩:=hiu;obtain⟨f1,en',f2,f3,f4⟩:=e4.2 j k0 v0 a4;rw[a3]at f2;obtain rfl:=Option.some.inj f2;refine⟨f1,{ en with key:=vk,val:=vv },?_,?_,hv⟩
       ·rw[Array.toList_modify,List.getElem?_modify_eq,a3];rfl
       ·show Rep I L k0 vk;rw[<- a5];exact f3
      ·rw[List.getElem?_set_ne hij]at hiu;obtain⟨f1,en',f2,f3⟩:=e4.2 i kk u hiu;refine⟨f1,en',?_,f3⟩;rw[Array.toList_modify,List.getElem?_modify_ne _ _ hij];exact f2
   ·cases h
  ·cases h
 ·cases h
variable [VarTab]
set_option linter.unusedSectionVars false
open Go.RowKit
variable {P:Program}{B0:Nat}{w0:Base}{w:World}{I:Imm}{H:List MB}{L:List Lay}
theorem DI:∀ {ys:List AV}{ns:List Int},bytesOf ys=some ns->ys=ns.map (AV.int .u8)
 | [],ns,h=>by simp[bytesOf]at h;subst h;rfl
 | y::ys,ns,h=>by
   cases y<;>simp[bytesOf]at h;obtain⟨rfl,r,h2,rfl⟩:=h;rw[map_cons,<- DI h2]
theorem EK (ns:List Int):ns.foldl (fun r n=>r.push (UInt8.ofNat n.toNat)) ByteArray.empty=strB ns:=by
 have h:∀(ns:List Int) (acc:ByteArray),ns.foldl (fun r n=>r.push (UInt8.ofNat n.toNat)) acc=⟨acc.data++(ns.map fun n=>UInt8.ofNat n.toNat).toArray⟩:=by
  intro ns
  induction ns with
  | nil=>intro acc;simp
  | cons n ns ih=>intro acc;rw[List.foldl_cons,ih];simp[ByteArray.push]
 rw[h];simp[strB]
theorem IH (hi:Inv B0 w0 I H L w) {s d e:TypeId}{x:AV}{v:Value} (hx:Rep I L x v) (he:tyElem P s=some e) (hb:tyInt P e=some .u8) (hd:tyStr P d=true) {b:ByteArray} (h:strOf H x=some b) :
  (convert s d v).run P w=.ok (.string b) w:=by
 unfold strOf at h;split at h
 ·rename_i ys hys;cases hq:bytesOf ys with
  | none=>rw[hq]at h;cases h
  | some ns=>
    rw[hq]at h;simp only[Option.map_some,Option.some.injEq]at h;subst h;have hyn:=DI hq;subst hyn;obtain⟨cs,e1,e2,e3⟩:=CL (P:=P) hi hx hys (k:=1) (fun y hy=>by
     obtain⟨n,_,rfl⟩:=List.mem_map.1 hy;rfl)
    have hcs:cs=(ns.map (Value.int .u8)).toArray:=by
     obtain⟨c1,_,c3⟩:=e3;simp at c1;apply Array.ext
     ·simp[c1]
     ·intro i h1 h2;have hin:i<ns.length:=by omega
      obtain⟨_,r2⟩:=c3 i 0 (.int .u8 ns[i]) (.int .u8 ns[i]) (by simp[hin]) rfl;have:cs.getD (i*1+0) undef=cs[i]:=by simp[h1]
      rw[this]at r2;cases hv:cs[i] with
      | _=>rw[hv]at r2;cases r2;try simp
    subst hcs;have hsl:∃ a l c,v=.slice a l c:=by
     unfold elemsOf at hys;cases hx<;>first|exact⟨_,_,_,rfl⟩|simp at hys
    obtain⟨a,l,c,rfl⟩:=hsl;rw[run_convert_bytes_string w s d e a l c (BP he) (CX hb) (CH hd)];cases a with
    | none=>
      have hl:ns=[]:=by
       simp[Builtin.firstCells]at e2;exact e2
      subst hl;simp[Conv.bytesToString];rfl
    | some a=>
      have hlen:l=ns.length:=by
       simp[Builtin.lenOf]at e1;omega
      subst hlen;have hld:(loadCells a ns.length).run P w=.ok (ns.map (Value.int .u8)).toArray w:=by
       simpa [Builtin.firstCells] using e2
      rw[run_bytesToString w a _ c ns hld,EK]
 ·cases h
end Go.Ev
