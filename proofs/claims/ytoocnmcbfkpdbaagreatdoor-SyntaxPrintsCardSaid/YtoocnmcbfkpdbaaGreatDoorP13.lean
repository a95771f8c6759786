/- What functions of the program compute; no further conditions. -/
import Derived.Test.YtoocnmcbfkpdbaaGreatDoorP12
import Derived.Laws.Strings
import Derived.Shelf.Abstract
import Derived.RegionTactic
import Derived.Tactics2
set_option linter.unusedVariables false
set_option linter.unusedSimpArgs false
open List (all_eq_true cons_append getElem?_eq_getElem head?_drop length_append length_cons length_map map_append map_replicate map_set map_take mem_map mem_of_getElem? mem_range nil_append)
open Array (size_empty)
open Nat (add_assoc add_comm mul_one)
open Go.Proofs Go.RowKit Go.IntWalk
set_option maxHeartbeats 8000000
set_option maxRecDepth 100000
namespace Go.Ev
attribute [local go_sem] AV.cells
section
attribute [local go_sem] evAppend evBin Go.IntWalk.i64_quo Go.IntWalk.rem_in
def aroundI (n m:Int):Int:=(if n<0 then-(n+1) else n) % m
def In64 (n:Int):Prop:=-9223372036854775808<=n/\n<=9223372036854775807
theorem Bm {n m:Int} (h:0<m):0<=aroundI n m/\aroundI n m<m:=by
 unfold aroundI;have:0<=(if n<0 then-(n+1) else n):=by split<;>omega
 exact⟨Int.emod_nonneg _ (by omega),Int.emod_lt_of_pos _ h⟩
theorem f12 (n m:Int) (hn:In64 n) (hm:m≠0) (H:List MB):call Pg pol1 15 [.int .i64 n,.int .i64 m] H=some (I (aroundI n m),H):=by
 obtain⟨h1,h2⟩:=hn;refine AQ Tryz.func15 rfl rfl rfl rfl rfl rfl (fun _=>rfl) (by simp[AV.plain,AV.plainL,AF,AE,AL,AM]) (by simp[AV.plain,AV.plainL,AF,AE,AL,AM]) ?_ H;simp +contextual (disch:=omega) only[Tryz.f15,dd15,go_sem,simprocAttr,mu15,↓AD,↓AC,↓AB,↓AA];unfold aroundI;refine⟨fun h=>⟨hm,fzEq rfl ?_⟩,fun h=>⟨hm,fzEq rfl ?_⟩⟩
 ·rw[if_pos h];try (congr 2;omega)
 ·rw[if_neg h]
def pickI (l:List Int) (i m:Int):Int:=if i<0 then 0 else match l[i.toNat]? with
 | some x=>aroundI x m
 | none=>0
theorem Hv {l:List Int}{i m:Int} (h:0<m):0<=pickI l i m/\pickI l i m<m:=by
 unfold pickI;split
 ·omega
 ·split
  ·exact Bm h
  ·omega
theorem f57 (l:List Int) (i m:Int) (hl:∀ x∈l,In64 x) (hm:m≠0) (H:List MB):call Pg pol1 48 [.sl false (l.map I),.int .i64 i,.int .i64 m] H=some (I (pickI l i m),H):=by
 refine AQ Tryz.func48 rfl rfl rfl rfl rfl rfl (fun _=>rfl) (by simp[AV.plain,AV.plainL,AF,AE,AL,AM]) (by simp[AV.plain,AV.plainL,AF,AE,AL,AM]) ?_ H;by_cases h0:i<0
 ·have e:pickI l i m=0:=by simp[pickI,h0]
  rw[e];simp +contextual (disch:=omega) only[Tryz.f48,dd48,go_sem,simprocAttr,mu48,↓AD,↓AC,↓AB,↓AA];exact fzEq rfl rfl
 ·obtain⟨k,rfl⟩:∃ k:Nat,i=k:=⟨i.toNat,by omega⟩;by_cases h1:k<l.length
  ·obtain⟨p,hp⟩:∃ p,l[k]?=some p:=⟨_,getElem?_eq_getElem h1⟩;have e:pickI l k m=aroundI p m:=by simp[pickI,h0,hp]
   rw[e];have hf:=f12 p m (hl p (mem_of_getElem? hp)) hm;simp +contextual (disch:=omega) only[Tryz.f48,dd48,go_sem,simprocAttr,mu48,↓AD,↓AC,↓AB,↓AA,hp,hf];exact fzEq rfl rfl
  ·have e:pickI l k m=0:=by simp[pickI,List.getElem?_eq_none (Nat.le_of_not_lt h1)]
   rw[e];simp +contextual (disch:=omega) only[Tryz.f48,dd48,go_sem,simprocAttr,mu48,↓AD,↓AC,↓AB,↓AA];exact fzEq rfl rfl
end
section
attribute [local go_sem] evAppend BA BG bndO bnd evEq eqCells not_false_eq_true not_true_eq_false Ak size_empty length_append map_append tySzE head?_drop mul_one Al Az Ae Am An Ap
abbrev T (l:List Int):AV:=.str (strB l)
theorem Cr (b f m:Nat):digF b (f+1) m=(if m<b then [] else digF b f (m / b))++[digC (m % b)]:=by rw[digF]
theorem Fi {b:Nat} (hb:2<=b):∀ f m,m<2 ^ f->digF b (f+2) m=digF b (f+1) m
 | 0,m,h=>by
   have:m<b:=by omega
   have e1:=Cr b 1 m;have e2:=Cr b 0 m;rw[if_pos this]at e1 e2;exact e1.trans e2.symm
 | f+1,m,h=>by
   have e1:=Cr b (f+2) m;have e2:=Cr b (f+1) m;refine e1.trans (Eq.trans ?_ e2.symm);by_cases hm:m<b
   ·rw[if_pos hm,if_pos hm]
   ·rw[if_neg hm,if_neg hm];have h1:m / b<2 ^ f:=by
     rw[Nat.div_lt_iff_lt_mul (by omega)];have:2 ^ f*2<=2 ^ f*b:=Nat.mul_le_mul_left _ hb;rw[Nat.pow_succ]at h;omega
    rw[Fi hb f _ h1]
theorem Fh {b:Nat} (hb:2<=b) {m:Nat} (hm:m<2 ^ 62):digI b (m:Int)=(if m<b then [] else digI b ((m / b:Nat):Int))++[digC (m % b)]:=by
 unfold digI;rw[Int.toNat_natCast,Int.toNat_natCast,digF];by_cases h:m<b
 ·rw[if_pos h,if_pos h]
 ·rw[if_neg h,if_neg h];have h1:m / b<2 ^ 62:=Nat.lt_of_le_of_lt (Nat.div_le_self _ _) hm;rw[Fi hb 62 _ h1]
theorem sapp (a b:List Int):strB a++strB b=strB (a++b):=(GP a b).symm
theorem kS1:(⟨#[92]⟩:ByteArray)=strB [92]:=rfl
theorem kS2:(⟨#[92,110]⟩:ByteArray)=strB [92,110]:=rfl
theorem kS3:(⟨#[92,114]⟩:ByteArray)=strB [92,114]:=rfl
theorem kS4:(⟨#[92,116]⟩:ByteArray)=strB [92,116]:=rfl
theorem kS5:(⟨#[92,117,123]⟩:ByteArray)=strB [92,117,123]:=rfl
theorem kS6:(⟨#[125]⟩:ByteArray)=strB [125]:=rfl
theorem kS7:(⟨#[48]⟩:ByteArray)=strB [48]:=rfl
theorem kS8:(⟨#[92,120]⟩:ByteArray)=strB [92,120]:=rfl
theorem kS9:(⟨#[91]⟩:ByteArray)=strB [91]:=rfl
theorem kS10:(⟨#[93]⟩:ByteArray)=strB [93]:=rfl
theorem kS11:(⟨#[45]⟩:ByteArray)=strB [45]:=rfl
theorem kS12:(⟨#[40,63,58]⟩:ByteArray)=strB [40,63,58]:=rfl
theorem kS13:(⟨#[41]⟩:ByteArray)=strB [41]:=rfl
theorem kS14:(⟨#[124]⟩:ByteArray)=strB [124]:=rfl
theorem kS15:(⟨#[42]⟩:ByteArray)=strB [42]:=rfl
theorem kS16:(⟨#[43]⟩:ByteArray)=strB [43]:=rfl
theorem kS17:(⟨#[63]⟩:ByteArray)=strB [63]:=rfl
theorem kS18:(⟨#[123]⟩:ByteArray)=strB [123]:=rfl
theorem kS19:(⟨#[44,125]⟩:ByteArray)=strB [44,125]:=rfl
theorem kS20:(⟨#[44]⟩:ByteArray)=strB [44]:=rfl
theorem kS21:(⟨#[40,63,60]⟩:ByteArray)=strB [40,63,60]:=rfl
theorem kS22:(⟨#[62]⟩:ByteArray)=strB [62]:=rfl
theorem kS23:(⟨#[40,63]⟩:ByteArray)=strB [40,63]:=rfl
theorem kS24:(⟨#[40,63,62]⟩:ByteArray)=strB [40,63,62]:=rfl
theorem kS25:(⟨#[40,63,40]⟩:ByteArray)=strB [40,63,40]:=rfl
theorem kS26:(⟨#[33]⟩:ByteArray)=strB [33]:=rfl
theorem kS27:(⟨#[61]⟩:ByteArray)=strB [61]:=rfl
theorem kS28:(⟨#[40,63,35]⟩:ByteArray)=strB [40,63,35]:=rfl
theorem kS29:(⟨#[92,65]⟩:ByteArray)=strB [92,65]:=rfl
theorem kS30:(⟨#[92,122]⟩:ByteArray)=strB [92,122]:=rfl
theorem kS31:(⟨#[40,63,109,58,94,41]⟩:ByteArray)=strB [40,63,109,58,94,41]:=rfl
theorem kS32:(⟨#[40,63,109,58,36,41]⟩:ByteArray)=strB [40,63,109,58,36,41]:=rfl
theorem kS33:(⟨#[92,98]⟩:ByteArray)=strB [92,98]:=rfl
theorem kS34:(⟨#[92,66]⟩:ByteArray)=strB [92,66]:=rfl
theorem kS35:(⟨#[40,63,60,33]⟩:ByteArray)=strB [40,63,60,33]:=rfl
theorem kS36:(⟨#[40,63,60,61]⟩:ByteArray)=strB [40,63,60,61]:=rfl
theorem kS37:(⟨#[40,63,33]⟩:ByteArray)=strB [40,63,33]:=rfl
theorem kS38:(⟨#[40,63,61]⟩:ByteArray)=strB [40,63,61]:=rfl
theorem LN:∀ k:Nat,k<16->(⟨#[48,49,50,51,52,53,54,55,56,57,97,98,99,100,101,102]⟩:ByteArray).extract k (k+1)=strB [digC k]:=by
 have:∀ k:Fin 16,(⟨#[48,49,50,51,52,53,54,55,56,57,97,98,99,100,101,102]⟩:ByteArray).extract k.val (k.val+1)=strB [digC k.val]:=by decide +kernel
 exact fun k h=>this ⟨k,h⟩
def digM (b:Nat) (m:Nat):List Int:=if m=0 then [] else digI b m
section
variable {k:IntKind}{a b:Int}
theorem IA:evBin .add k a b=some (.int k (k.wrap (a+b))):=rfl
theorem H8:evBin .sub k a b=some (.int k (k.wrap (a-b))):=rfl
theorem GB:evBin .gtr k a b=some (.bool (decide (a > b))):=rfl
theorem H9:evBin .geq k a b=some (.bool (decide (a >= b))):=rfl
end
theorem Gh:Array.size (#[48,49,50,51,52,53,54,55,56,57,97,98,99,100,101,102]:Array UInt8)=16:=rfl
theorem K9 {l:List Int} (h:l≠[]):((strB l).toList==ByteArray.toList ⟨#[]⟩)=false:=by
 rw[beq_eq_false_iff_ne,ByteArray.toList_eq,ByteArray.toList_eq];intro e;have h2:=congrArg List.length e;simp[strB]at h2;exact h h2
theorem KA:((strB []).toList==ByteArray.toList ⟨#[]⟩)=true:=by
 rw[ByteArray.toList_eq,ByteArray.toList_eq];rfl
theorem t47 (b:Nat) (hb:b=10∨b=16) (n:Nat) (hn:n<=4000000000) (H:List MB):call Pg pol1 47 [I n,I b] H=some (T (digI b n),H):=by
 refine AQ Tryz.func47 rfl rfl rfl rfl rfl rfl (fun _=>rfl) rfl rfl ?_ H;simp +contextual -implicitDefEqProofs (disch:=omega) only[Tryz.f47,dd47,go_sem,simprocAttr,mu47,↓AD,↓AC,↓AB,↓AA,i64_quo,rem_in];refine E1 (σ:=Nat×List Int) (M:=(mskOf (pol1.mask 47) (pol1.gc 47) (pol1.acts 47) 0 2)) rfl (fun x=>(⟨26,[(5,T x.2),(1,I b),(0,I (x.1:Nat))],[]⟩:St)) (fun x=>x.1<=n/\x.2.length<=4000000000-x.1/\(x.2=[]->x.1=n)/\(x.2≠[]->digI b n=digM b x.1++x.2)) (fun x=>x.1+if x.2=[] then 1 else 0) (n,[]) ?_ ⟨Nat.le_refl _,by simp,fun _=>rfl,fun h=>absurd rfl h⟩ _ rfl;rintro⟨m,s⟩ ⟨hm,hl,h1,h2⟩;simp only at hm hl h1 h2 |-;have hb2:2<=b:=by omega
 have hr16:m % b<16:=by rcases hb with rfl|rfl<;>omega
 have hex:=LN (m % b) hr16;have hqm:=Nat.div_le_self m b;have hql:0<m->m / b<m:=fun h=>Nat.div_lt_self h (by omega);have hq:evBin .quo .i64 (m:Int) b=some (I ((m / b:Nat):Int)):=by
  show (if(b:Int)=0 then none else some (I (IntKind.i64.wrap ((m:Int).tdiv b))))=_;have e:(m:Int).tdiv b=((m / b:Nat):Int):=rfl;rw[if_neg (by omega),e];generalize m / b=q at *;rw[i64_in]<;>omega
 have hr:evBin .rem .i64 (m:Int) b=some (I ((m % b:Nat):Int)):=by
  have e:(m:Int).tmod b=((m % b:Nat):Int):=rfl;show (if(b:Int)=0 then none else some (I ((m:Int).tmod b)))=_;rw[if_neg (by omega),e]
 have hst:=Fh (m:=m) hb2 (by omega);have hsz:(strB [digC (m % b)]).size+(strB s).size<=1099511627776:=by
  rw[AN,AN];simp;omega
 have happ:strB [digC (m % b)]++strB s=strB (digC (m % b)::s):=(GP _ _).symm;have hmz:digM b 0=[]:=rfl;have hms:0<m->digM b m=digI b m:=fun h=>by unfold digM;rw[if_neg (by omega)]
 have hmq:(if m<b then [] else digI b ((m / b:Nat):Int))=digM b (m / b):=by
  unfold digM;by_cases h:m<b
  ·rw[if_pos h,if_pos (Nat.div_eq_of_lt h)]
  ·have:0<m / b:=Nat.div_pos (by omega) (by omega);rw[if_neg h,if_neg (by omega)]
 rw[hmq]at hst;generalize m % b=r at *;generalize m / b=q at *;by_cases hc:m=0/\s≠[]
 ·obtain⟨rfl,hs⟩:=hc;have hs':=K9 hs;simp +contextual -implicitDefEqProofs (disch:=omega) only[Tryz.f47,dd47,go_sem,simprocAttr,mu47,↓AD,↓AC,↓AB,↓AA,i64_quo,rem_in,GB,evStrOp,hs'];rw[h2 hs,hmz,nil_append];exact⟨_,rfl⟩
 ·have hs0:m=0->s=[]:=fun h=>Classical.byContradiction fun h'=>hc ⟨h,h'⟩;have hnext:digI b n=digM b q++(digC r::s):=by
   by_cases h:s=[]
   ·subst h;rw[<- h1 rfl,hst]
   ·have hm0:0<m:=Nat.pos_of_ne_zero fun e=>h (hs0 e);rw[h2 h,hms hm0,hst];simp
  have fin:∃ x':Nat×List Int,(x'.1<=n/\x'.2.length<=4000000000-x'.1/\(x'.2=[]->x'.1=n)/\(x'.2≠[]->digI b n=digM b x'.1++x'.2))/\((x'.1+if x'.2=[] then 1 else 0)<m+if s=[] then 1 else 0)/\x' = (q,digC r::s):=by
   refine⟨_,⟨by simp only;omega,?_,fun h=>by simp at h,fun _=>hnext⟩,?_,rfl⟩
   ·simp only[length_cons];by_cases h:m=0
    ·rw[hs0 h];simp;omega
    ·have:=hql (by omega);omega
   ·simp only[List.cons_ne_nil,if_false];by_cases h:m=0
    ·rw[if_pos (hs0 h)];omega
    ·have:=hql (by omega);split<;>omega
  obtain⟨x',f1,f2,f3⟩:=fin;by_cases h0:m=0
  ·have hs2:((strB s).toList==ByteArray.toList ⟨#[]⟩)=true:=by rw[hs0 h0];exact KA
   simp +contextual -implicitDefEqProofs (disch:=omega) only[Tryz.f47,dd47,go_sem,simprocAttr,mu47,↓AD,↓AC,↓AB,↓AA,i64_quo,rem_in,GB,IA,evStrOp,hs2,hex,hsz,hr,hq,Gh,happ];refine⟨x',f1,f2,?_⟩;rw[f3];rfl
  ·simp +contextual -implicitDefEqProofs (disch:=omega) only[Tryz.f47,dd47,go_sem,simprocAttr,mu47,↓AD,↓AC,↓AB,↓AA,i64_quo,rem_in,GB,IA,evStrOp,hex,hsz,hr,hq,Gh,happ];refine⟨x',f1,f2,?_⟩;rw[f3];rfl
theorem t47x (n:Nat) (hn:n<=4000000000) (H:List MB):call Pg pol1 47 [I n,I 16] H=some (T (digI 16 n),H):=t47 16 (.inr rfl) n hn H
theorem t47d (n:Nat) (hn:n<=4000000000) (H:List MB):call Pg pol1 47 [I n,I 10] H=some (T (digI 10 n),H):=t47 10 (.inl rfl) n hn H
end
section
attribute [local go_sem] evAppend evBin BA BG bndO bnd evEq eqCells not_false_eq_true not_true_eq_false Ak size_empty length_append map_append tySzE head?_drop mul_one Al Az Ae Am An Go.IntWalk.i64_quo Go.IntWalk.rem_in Ap
theorem CM {c:Int}:alnumI c=true↔(97<=c/\c<=122)∨(65<=c/\c<=90)∨(48<=c/\c<=57):=by
 unfold alnumI;simp only[Bool.or_eq_true,Bool.and_eq_true,decide_eq_true_eq];omega
def punB (c:Int):Bool:=decide (33<=c/\c<=126/\¬ alnumI c=true)
theorem t130 (c:Int) (H:List MB):call Pg pol1 130 [I c] H=some (.bool (punB c),H):=by
 refine AQ Tryz.func130 rfl rfl rfl rfl rfl rfl (fun _=>rfl) rfl rfl ?_ H;have hc:c<33∨(33<=c/\c<=47)∨(48<=c/\c<=57)∨(58<=c/\c<=64)∨(65<=c/\c<=90)∨(91<=c/\c<=96)∨(97<=c/\c<=122)∨(123<=c/\c<=126)∨126<c:=by omega
 have hf:¬ (33<=c/\c<=126/\¬ alnumI c=true)->punB c=false:=fun h=>decide_eq_false h;have ht:(33<=c/\c<=126/\¬ alnumI c=true)->punB c=true:=fun h=>decide_eq_true h;rw[CM]at hf ht;rcases hc with h|h|h|h|h|h|h|h|h
 all_goals
  first
   | (have hp:=ht (by omega)
      simp +contextual -implicitDefEqProofs (disch:=omega) only[Tryz.f130,K5,go_sem,simprocAttr,Kz,↓AD,↓AC,↓AB,↓AA];rw[hp];exact⟨_,rfl⟩)
   | (have hp:=hf (by omega)
      simp +contextual -implicitDefEqProofs (disch:=omega) only[Tryz.f130,K5,go_sem,simprocAttr,Kz,↓AD,↓AC,↓AB,↓AA];rw[hp];exact⟨_,rfl⟩)
theorem t84 (c:Nat) (hc:c<=1114111) (H:List MB):call Pg pol1 84 [I c] H=some (T (symT c),H):=by
 refine AQ Tryz.func84 rfl rfl rfl rfl rfl rfl (fun _=>rfl) rfl rfl ?_ H;have h130:=t130 c;have h47:=t47x c (by omega);have hw:c<256->IntKind.u8.wrap (c:Int)=c:=fun h=>by
  simp[IntKind.wrap,IntKind.signed,IntKind.bits];omega
 have hb:bytesOf [.int .u8 (c:Int)]=some [(c:Int)]:=rfl;by_cases hp:punB c=true
 ·have hp2:=of_decide_eq_true hp;have e:symT c=[92,(c:Int)]:=by
   unfold symT;rw[if_neg (fun h=>h.elim hp2.2.2 (by omega)),if_pos ⟨by omega,by omega⟩]
  rw[hp]at h130;have hw':=hw (by omega);simp +contextual -implicitDefEqProofs (disch:=omega) only[Tryz.f84,dd84,go_sem,simprocAttr,mu84,↓AD,↓AC,↓AB,↓AA,h130,hw',hb,evStrOp,AN,sapp,kS1,kS2,kS3,kS4,kS5,kS6,kS7,kS8,kS9,kS10,kS11,kS12,kS13,kS14,kS15,kS16,kS17,kS18,kS19,kS20,kS21,kS22,kS23,kS24,kS25,kS26,kS27,kS28,kS29,kS30,kS31,kS32,kS33,kS34,kS35,kS36,kS37,kS38];rw[e];exact⟨_,rfl⟩
 ·have hpf:punB c=false:=by simpa using hp
  have hp2:=of_decide_eq_false hpf;rw[hpf]at h130;by_cases h1:32<=c/\c<127
  ·have e:symT c=[(c:Int)]:=by
    unfold symT;rw[if_pos];by_cases ha:alnumI c=true
    ·exact .inl ha
    ·right;exact Classical.byContradiction fun h=>hp2 ⟨by omega,by omega,ha⟩
   have hw':=hw (by omega);simp +contextual -implicitDefEqProofs (disch:=omega) only[Tryz.f84,dd84,go_sem,simprocAttr,mu84,↓AD,↓AC,↓AB,↓AA,h130,hw',hb,evStrOp,AN,sapp,kS1,kS2,kS3,kS4,kS5,kS6,kS7,kS8,kS9,kS10,kS11,kS12,kS13,kS14,kS15,kS16,kS17,kS18,kS19,kS20,kS21,kS22,kS23,kS24,kS25,kS26,kS27,kS28,kS29,kS30,kS31,kS32,kS33,kS34,kS35,kS36,kS37,kS38];rw[e];exact⟨_,rfl⟩
  ·have ha:¬ (alnumI c=true∨(c:Int)=32):=by rw[CM];omega
   have h2:¬ (32<(c:Int)/\(c:Int)<127):=by omega
   unfold symT;rw[if_neg ha,if_neg h2];by_cases h10:c=10
   ·simp +contextual -implicitDefEqProofs (disch:=omega) only[Tryz.f84,dd84,go_sem,simprocAttr,mu84,↓AD,↓AC,↓AB,↓AA,h130,hb,evStrOp,AN,sapp,kS1,kS2,kS3,kS4,kS5,kS6,kS7,kS8,kS9,kS10,kS11,kS12,kS13,kS14,kS15,kS16,kS17,kS18,kS19,kS20,kS21,kS22,kS23,kS24,kS25,kS26,kS27,kS28,kS29,kS30,kS31,kS32,kS33,kS34,kS35,kS36,kS37,kS38];rw[if_pos (by omega)];exact⟨_,rfl⟩
   by_cases h13:c=13
   ·simp +contextual -implicitDefEqProofs (disch:=omega) only[Tryz.f84,dd84,go_sem,simprocAttr,mu84,↓AD,↓AC,↓AB,↓AA,h130,hb,evStrOp,AN,sapp,kS1,kS2,kS3,kS4,kS5,kS6,kS7,kS8,kS9,kS10,kS11,kS12,kS13,kS14,kS15,kS16,kS17,kS18,kS19,kS20,kS21,kS22,kS23,kS24,kS25,kS26,kS27,kS28,kS29,kS30,kS31,kS32,kS33,kS34,kS35,kS36,kS37,kS38];rw[if_neg (by omega),if_pos (by omega)];exact⟨_,rfl⟩
   by_cases h9:c=9
   ·simp +contextual -implicitDefEqProofs (disch:=omega) only[Tryz.f84,dd84,go_sem,simprocAttr,mu84,↓AD,↓AC,↓AB,↓AA,h130,hb,evStrOp,AN,sapp,kS1,kS2,kS3,kS4,kS5,kS6,kS7,kS8,kS9,kS10,kS11,kS12,kS13,kS14,kS15,kS16,kS17,kS18,kS19,kS20,kS21,kS22,kS23,kS24,kS25,kS26,kS27,kS28,kS29,kS30,kS31,kS32,kS33,kS34,kS35,kS36,kS37,kS38];rw[if_neg (by omega),if_neg (by omega),if_pos (by omega)];exact⟨_,rfl⟩
   rw[if_neg (by omega),if_neg (by omega),if_neg (by omega)];have hl:=A4 16 c;generalize digI 16 c=D at *;by_cases h255:255<c
   ·simp +contextual -implicitDefEqProofs (disch:=omega) only[Tryz.f84,dd84,go_sem,simprocAttr,mu84,↓AD,↓AC,↓AB,↓AA,h130,h47,hb,evStrOp,AN,sapp,kS1,kS2,kS3,kS4,kS5,kS6,kS7,kS8,kS9,kS10,kS11,kS12,kS13,kS14,kS15,kS16,kS17,kS18,kS19,kS20,kS21,kS22,kS23,kS24,kS25,kS26,kS27,kS28,kS29,kS30,kS31,kS32,kS33,kS34,kS35,kS36,kS37,kS38];exact⟨_,rfl⟩
   ·rw[if_neg (by omega)];by_cases h16:c<16
    ·simp +contextual -implicitDefEqProofs (disch:=omega) only[Tryz.f84,dd84,go_sem,simprocAttr,mu84,↓AD,↓AC,↓AB,↓AA,h130,h47,hb,evStrOp,AN,sapp,kS1,kS2,kS3,kS4,kS5,kS6,kS7,kS8,kS9,kS10,kS11,kS12,kS13,kS14,kS15,kS16,kS17,kS18,kS19,kS20,kS21,kS22,kS23,kS24,kS25,kS26,kS27,kS28,kS29,kS30,kS31,kS32,kS33,kS34,kS35,kS36,kS37,kS38];exact⟨_,rfl⟩
    ·rw[if_neg (show ¬ (c:Int)<16 by omega)];simp +contextual -implicitDefEqProofs (disch:=omega) only[Tryz.f84,dd84,go_sem,simprocAttr,mu84,↓AD,↓AC,↓AB,↓AA,h130,h47,hb,evStrOp,AN,sapp,kS1,kS2,kS3,kS4,kS5,kS6,kS7,kS8,kS9,kS10,kS11,kS12,kS13,kS14,kS15,kS16,kS17,kS18,kS19,kS20,kS21,kS22,kS23,kS24,kS25,kS26,kS27,kS28,kS29,kS30,kS31,kS32,kS33,kS34,kS35,kS36,kS37,kS38];exact⟨fun _=>⟨_,rfl⟩,fun _=>⟨_,rfl⟩⟩
end
end Go.Ev
namespace Go.Ev
open Go.Proofs Go.RowKit Go.Shelf
theorem eg89:∀(vs:Array Value) (w:World),(callFunc 89 vs).run Pg w=.ok (.enter 89 vs) w:=enters_of Tryz.func89 (by kernel_rfl) rfl
theorem eg43:∀(vs:Array Value) (w:World),(callFunc 43 vs).run Pg w=.ok (.enter 43 vs) w:=enters_of Tryz.func43 (by kernel_rfl) rfl
theorem J6 (b o:Nat) (w:World) (h:w.cell? ⟨b,o+1,none⟩=some (.slice none 0 0)):Calls Pg 43 #[.pointer (some ⟨b,o,none⟩)] w fun r w'=>r=.returned (.string ByteArray.empty)/\w' = w.drew:=by
 have hUS:∀(W:World) (q:Option Addr),(Builtin.unsafeString_ #[147,3] 9 #[.pointer q,.int .i64 0]).run Pg W=.ok (.string .empty) W:=fun W q=>Lib.run_unsafeString_none W _ _ _ q;have c1:w.drew.cell? ⟨b,o+1,none⟩=some (.slice none 0 0):=h;have hSD:(Builtin.unsafeSliceData_ #[61] 147 #[.slice none 0 0]).run Pg w.drew=.ok (.pointer none) w.drew:=rfl
 go_enter Tryz.func43,Tryz.ntmps43
 go_wp2
 go_region
 all_goals (go_wp2;go_ret;exact⟨rfl,rfl⟩)
theorem J5 (b o g n c:Nat) (s:ByteArray) (w w2:World) (h:w.cell? ⟨b,o+1,none⟩=some (.slice (some ⟨g,0,none⟩) n c)) (hc:c≠0)
  (hUS:(Builtin.unsafeString_ #[147,3] 9 #[.pointer (some ⟨g,0,none⟩),.int .i64 n]).run Pg w.drew=.ok (.string s) w2) :
  Calls Pg 43 #[.pointer (some ⟨b,o,none⟩)] w fun r w'=>r=.returned (.string s)/\w' = w2:=by
 have c1:w.drew.cell? ⟨b,o+1,none⟩=some (.slice (some ⟨g,0,none⟩) n c):=h;have hSD:(Builtin.unsafeSliceData_ #[61] 147 #[.slice (some ⟨g,0,none⟩) n c]).run Pg w.drew=.ok (.pointer (some ⟨g,0,none⟩)) w.drew:=Lib.run_unsafeSliceData_row _ _ _ _ _ _ hc;clear hc
 go_enter Tryz.func43,Tryz.ntmps43
 go_wp2
 go_region
 all_goals (go_wp2;go_ret;exact⟨rfl,rfl⟩)
theorem J3 (b o:Nat) (w:World) (h:w.cell? ⟨b,o,none⟩=some (.pointer (some ⟨b,o,none⟩))):Calls Pg 89 #[.pointer (some ⟨b,o,none⟩)] w fun r w'=>r=.returned (.tuple #[])/\w' = w:=by
 obtain⟨j,hj,hjs⟩:=Option.map_eq_some_iff.1 (show (Pg.info? 77).map (·.size)=some 2 by kernel_rfl)
 go_enter Tryz.func89,Tryz.ntmps89
 go_wp2
 rw[Lib.run_neq_ptr_same w _ Tryz.underlying75 hj]
 go_wp2
 go_end0
 exact⟨rfl,rfl⟩
theorem LJ:∀ c:Nat,liesAt Pg Pg.depth 77 (c+1) 0 77 1=true:=fun c=>by kernel_rfl
theorem LI:∀ c:Nat,liesAt Pg Pg.depth 79 (c+1) 0 77 1=true:=fun c=>by kernel_rfl
theorem J4 (b n:Nat) (T:TypeId) (w:World) (hT:[77,79].contains T=true) (h0:w.cell? ⟨b,0,none⟩=some (.pointer none)) (hsh:w.shape? b=some (T,n)) (hn:2<=n) (hfz:w.frozen? ⟨b,0,none⟩=false) :
  Calls Pg 89 #[.pointer (some ⟨b,0,none⟩)] w fun r w'=>r=.returned (.tuple #[])/\w' = w.setCell ⟨b,0,none⟩ (.pointer (some ⟨b,0,none⟩)):=by
 obtain⟨j,hj,hjs⟩:=Option.map_eq_some_iff.1 (show (Pg.info? 77).map (·.size)=some 2 by kernel_rfl);have hlies:liesAt Pg Pg.depth T (n / Pg.cellsOf T) 0 77 1=true:=by
  have hT':T=77∨T=79:=by simpa using hT
  have e:n / 2=(n / 2-1)+1:=by omega
  rcases hT' with rfl|rfl
  ·rw[show Pg.cellsOf 77=2 by kernel_rfl,e];exact LJ _
  ·rw[show Pg.cellsOf 79=2 by kernel_rfl,e];exact LI _
 clear hT
 go_enter Tryz.func89,Tryz.ntmps89
 go_wp2
 rw[Lib.run_to_unsafe w ⟨b,0,none⟩ Tryz.underlying75 Tryz.underlying171 hj (by rw[hjs];decide) hsh (by show 0<n;omega)];simp only[Result.andThen];rw[Oper.upon_value]
 go_wp2
 rw[run_callFunc_extern Tryz.func131 (by kernel_rfl) (by kernel_rfl) (by kernel_rfl) (e:=Extern.AbiNoEscape.same) (by kernel_rfl)];rw[Lib.run_noEscape];simp only[Result.andThen];rw[Oper.upon_value]
 go_wp2
 rw[Lib.run_from_unsafe w ⟨b,0,none⟩ Tryz.underlying171 Tryz.underlying75 hj hsh hlies];simp only[Result.andThen];rw[Oper.upon_value]
 go_wp2
 go_end0
 exact⟨rfl,rfl⟩
theorem IX {f:Nat}{g:List AV->List MB->Option (AV×List MB)} (hg:pol1.ext f=some g):(f=89/\g=ccExt [77,79])∨(f=43/\g=bsExt 5):=by
 have e:pol1.ext f=if f=89 then some (ccExt [77,79]) else if f=43 then some (bsExt 5) else none:=rfl
 rw[e]at hg;by_cases h:f=89
 ·rw[if_pos h]at hg;exact(.inl ⟨h,(Option.some.inj hg).symm⟩)
 rw[if_neg h]at hg;clear h;by_cases h:f=43
 ·rw[if_pos h]at hg;exact(.inr ⟨h,(Option.some.inj hg).symm⟩)
 rw[if_neg h]at hg;clear h;cases hg
theorem ext1:ExtOk Pg pol1:=by
 intro f g hg args H r H' h;rcases IX hg with ⟨rfl,rfl⟩|⟨rfl,rfl⟩
 ·exact Jp (te:=0) eg89 J3 J4 h
 ·exact Jr (pt:=147) (it:=3) (ty:=9) eg43 J6 J5 Tryz.underlying147 (by kernel_rfl) h
theorem Je:Pg.follows .mixedOrders=true:=by kernel_rfl
theorem ok1:CfOk Pg (call Pg pol1):=Kl ext1 Je
end Go.Ev
namespace Go.Ev
attribute [local go_sem] AV.cells
section
attribute [local go_sem] evAppend BA BG bndO bnd evEq eqCells not_false_eq_true not_true_eq_false Ak size_empty length_append map_append tySzE head?_drop mul_one Al Az Ae Am An Go.IntWalk.i64_quo Go.IntWalk.rem_in Ap
noncomputable def itoaOk (c:Nat):Bool:=match evF Pg pol1 20 8 40 [I c] [] with
 | some (.str s,[])=>s.data.toList==(strB (digI 10 c)).data.toList
 | _=>false
theorem JX:((List.range 100).all itoaOk)=true:=by kernel_rfl
theorem JA {f:Nat}{args:List AV}{s:ByteArray} (hp:pol1.pure f=true) (hb:∀ i,pol1.byref f i=false) (ha:AV.plainL args=true) (h:call Pg pol1 f args []=some (.str s,[])) (H:List MB) :
  call Pg pol1 f args H=some (.str s,H):=by
 rw[Bn]at h |-;unfold evStep at h |-;rw[if_pos hp]at h |-;simp only[CD hb _ args 0 ha,AG 0 args ha,if_true]at h |-
 revert h
 generalize evBody Pg pol1 (call Pg pol1) itL f args []=X;intro h;unfold rebase at h;split at h
 ·split at h
  ·cases h;rfl
  ·cases h
 ·split at h
  ·cases h
  ·cases h
 ·cases h
theorem p40 (c:Int) (h:0<=c/\c<100) (H:List MB):call Pg pol1 40 [I c] H=some (T (digI 10 c),H):=by
 obtain⟨n,rfl⟩:∃ n:Nat,c=n:=⟨c.toNat,by omega⟩;have h1:=all_eq_true.1 JX n (mem_range.2 (by omega));unfold itoaOk at h1;split at h1
 ·rename_i s hs;have e:s=strB (digI 10 n):=ByteArray.ext (Array.toList_inj.1 (by simpa using h1));show call Pg pol1 40 [I n] H=some (.str (strB (digI 10 n)),H);rw[<- e];exact JA rfl (fun _=>rfl) rfl (Bv (n:=20) 8 40 _ _ _ hs) H
 ·cases h1
theorem p177 (H:List MB):call Pg pol1 177 [I 16] H=some (.bool true,H):=Bv (n:=20) 8 177 _ _ _ (by kernel_rfl)
theorem p178 (H:List MB):call Pg pol1 178 [.int .u64 16] H=some (I 4,H):=Bv (n:=20) 8 178 _ _ _ (by kernel_rfl)
theorem Jh (m:Nat):evBin .and .u64 (m:Int) 15=some (.int .u64 ((m % 16:Nat):Int)):=by
 have:(BitVec.ofInt IntKind.u64.bits (m:Int) &&& BitVec.ofInt IntKind.u64.bits 15).toNat=m % 16:=by
  show (BitVec.ofInt 64 (m:Int) &&& 15#64).toNat=m % 16;rw[BitVec.toNat_and,BitVec.ofInt_natCast,BitVec.toNat_ofNat,show (15#64).toNat=2 ^ 4-1 from rfl,Nat.and_two_pow_sub_one_eq_mod];omega
 simp only[evBin,this];have h:IntKind.u64.wrap ((m % 16:Nat):Int)=((m % 16:Nat):Int):=by
  simp[IntKind.wrap,IntKind.signed,IntKind.bits];omega
 rw[h]
theorem shr4 (m:Nat):evShift .shr .u64 (m:Int) 4=some (.int .u64 ((m / 16:Nat):Int)):=by
 simp only[evShift];simp;rw[Int.fdiv_eq_ediv_of_nonneg _ (by decide)];rfl
abbrev B8 (n:Int):AV:=.int .u8 n
theorem Dh {P:Program}{pol:Pol}{f:Nat}{args l:List AV}{H H1:List MB} (hp:pol.pure f=true) (h:frzArgs pol f 0 args H=some (l,H1)) (ha:AV.plainL l=true) :
  call P pol f args H=call P pol f l H1:=by
 have hf:∀(l:List AV) (i:Nat),AV.plainL l=true->frzArgs pol f i l H1=some (l,H1):=by
  intro l
  induction l with
  | nil=>intro i _;rfl
  | cons x l ih=>
    intro i h;simp only[AV.plainL,Bool.and_eq_true]at h;simp only[frzArgs,Ao H1 h.1,ih (i+1) h.2];split<;>simp_all
 rw[Bn,Bn];unfold evStep;simp only[hp,if_true,h,hf l 0 ha]
def arr (i:Nat) (d:List Int):List AV:=List.replicate i (B8 0)++d.map B8
theorem Hl (i:Nat) (d:List Int):(arr i d).all AV.ok=true:=by
 rw[all_eq_true];intro x hx;rcases List.mem_append.1 hx with h|h
 ·rw[(List.mem_replicate.1 h).2];rfl
 ·obtain⟨c,_,rfl⟩:=mem_map.1 h;rfl
theorem EE {i:Nat}{d:List Int} (h:i+d.length=65):(arr i d).length=65:=by simp[arr,h]
theorem Ij (i:Nat) (d:List Int):AV.plainL (arr i d)=true:=by
 have h1:AV.plainL (d.map B8)=true:=by
  induction d with
  | nil=>rfl
  | cons a d ih=>simp[AV.plainL,ih];rfl
 unfold arr
 induction i with
 | zero=>simpa using h1
 | succ i ih=>rw[List.replicate_succ,cons_append,AV.plainL,ih];rfl
theorem Ju:tyZero Pg 213=some (.agg (arr 65 [])):=by kernel_rfl
theorem Ko (i:Nat) (d:List Int) (x:Int):(arr (i+1) d).take i++(B8 x::(arr (i+1) d).drop (i+1))=arr i (x::d):=by
 unfold arr;rw[List.drop_append_of_le_length (by simp),List.drop_of_length_le (by simp),List.take_append_of_le_length (by simp)];simp
theorem Kp {i:Nat}{d:List Int} (h:i+d.length=65):((arr i d).take 65).drop i=d.map B8:=by
 rw[List.take_of_length_le (by rw[EE h];exact Nat.le_refl _)];unfold arr;rw[List.drop_append_of_le_length (by simp),List.drop_of_length_le (by simp)];rfl
theorem Ew (d:List Int):bytesOf (d.map B8)=some d:=by
 induction d with
 | nil=>rfl
 | cons a d ih=>simp[bytesOf,ih]
theorem Ke:((List.range 16).all fun k=>match evIndex Pg 9 (.str ⟨#[48,49,50,51,52,53,54,55,56,57,97,98,99,100,101,102,103,104,105,106,107,108,109,110,111,112,113,114,115,116,117,118,119,120,121,122]⟩) (.int .u64 (k:Nat)) with
 | some (.int .u8 n)=>n==digC k
 | _=>false)=true:=by kernel_rfl
theorem hix (k:Nat) (h:k<16):evIndex Pg 9 (.str ⟨#[48,49,50,51,52,53,54,55,56,57,97,98,99,100,101,102,103,104,105,106,107,108,109,110,111,112,113,114,115,116,117,118,119,120,121,122]⟩) (.int .u64 (k:Nat))=some (B8 (digC k)):=by
 have h1:=all_eq_true.1 Ke k (mem_range.2 h);simp only at h1;split at h1
 ·rename_i n e;rw[e,eq_of_beq h1]
 ·cases h1
theorem p160 (c:Nat) (hc:c<=1114111) (H:List MB):call Pg pol1 160 [.sl false [],.int .u64 c,I 16,.bool false,.bool false] H=some (.tup [.sl false [],T (digI 16 c)],H):=by
 refine AQ Tryz.func160 rfl rfl rfl rfl rfl rfl (fun _=>rfl) rfl rfl ?_ H;have h177:=p177;have h178:=p178;have hw:IntKind.u64.wrap 16=16:=rfl;have hw4:IntKind.u64.wrap 4=4:=rfl;have hw1:IntKind.u64.wrap (16-1)=15:=rfl;have hz:=Ju;have ho:=Hl 65 [];have hl:=EE (i:=65) (d:=[]) rfl;have hw15:IntKind.u64.wrap 15=15:=rfl;simp +contextual -implicitDefEqProofs (disch:=omega) only[Tryz.f160,Jm,go_sem,simprocAttr,evBin,JP,↓AD,↓AC,↓AB,↓AA,h177,h178,hw,hw4,hw1,hw15,hz,ho,hl]
 refine E1 (σ:=Nat×Nat×List Int) (M:=(mskOf (pol1.mask 160) (pol1.gc 160) (pol1.acts 160) 0 11)) rfl (fun x=>(⟨102,[(16,.int .u64 15),(15,.int .u64 16),(14,.int .u64 4),(13,I (x.2.1:Nat)),(12,.rf 0 1 0 0),(11,.str ⟨#[]⟩),(10,.sl true []),(4,.bool false),(3,.bool false),(1,.int .u64 (x.1:Nat)),(0,.sl false [])],[.row 65 [.agg (arr x.2.1 x.2.2)] 0]⟩:St))
  (fun x=>x.2.1+x.2.2.length=65/\digI 16 c=digI 16 (x.1:Nat)++x.2.2/\x.1<16 ^ (8-x.2.2.length)/\x.2.2.length<=7) (fun x=>x.1) (c,65,[]) ?_ ⟨rfl,by simp,by simp;omega,by simp⟩ _ (by rfl)
 rintro⟨m,i,d⟩ ⟨h1,h2,h3,h4⟩;simp only at h1 h2 h3 h4 |-;have hand:=Jh m;have hshr:=shr4 m;have hst:=Fh (b:=16) (m:=m) (by omega) (by
  have:16 ^ (8-d.length)<=16 ^ 8:=Nat.pow_le_pow_right (by omega) (by omega);omega)
 have hal:=EE h1;have hao:=Hl i d;obtain⟨j,rfl⟩:∃ j,i=j+1:=⟨i-1,by omega⟩;have hput:=Ko j d;by_cases hm:16<=m
 ·have hd7:d.length+1<=7:=by
   rcases Nat.lt_or_ge d.length 7 with h|h
   ·omega
   ·have:8-d.length=1:=by omega
    rw[this]at h3;omega
  have hk:=hix (m % 16) (by omega);have hput:=hput (digC (m % 16));simp +contextual -implicitDefEqProofs (disch:=omega) only[Tryz.f160,Jm,go_sem,simprocAttr,JP,↓AD,↓AC,↓AB,↓AA,H9,H8,hand,hshr,hal,hao,hk,hput];refine⟨(m / 16,j,digC (m % 16)::d),⟨?_,?_,?_,?_⟩,?_,rfl⟩
  ·simp only[length_cons];omega
  ·simp only;rw[h2,hst,if_neg (by omega)];simp
  ·simp only[length_cons];rw[Nat.div_lt_iff_lt_mul (by omega)];have:16 ^ (8-d.length)=16 ^ (8-(d.length+1))*16:=by
    rw[<- Nat.pow_succ];congr 1;omega
   omega
  ·simp only[length_cons];omega
  ·simp only;omega
 ·have hk:=hix m (by omega);have hput:=hput (digC m);have hb:bytesOf (B8 (digC m)::d.map B8)=some (digC m::d):=Ew (digC m::d);have hget:=Kp (i:=j) (d:=digC m::d) (by simp;omega);have hfz:fz (.rf 0 1 0 0) [.row 65 [.agg (arr j (digC m::d))] 0]=some (.pt (arr j (digC m::d)),[.row 65 [.agg (arr j (digC m::d))] 1]):=Ja (x:=.agg (arr j (digC m::d))) (k:=65) (z:=0) rfl rfl rfl (Ij _ _);have hal2:=EE (i:=j) (d:=digC m::d) (by simp;omega);have hao2:=Hl j (digC m::d);have hend:digI 16 c=digC m::d:=by
   rw[h2,hst,if_pos (by omega),Nat.mod_eq_of_lt (by omega)];rfl
  rw[hend];simp +contextual -implicitDefEqProofs (disch:=omega) only[Tryz.f160,Jm,go_sem,simprocAttr,JP,↓AD,↓AC,↓AB,↓AA,H9,H8,hand,hshr,hal,hao,hk,hput,evSliceArr,chunks,hget,hb,hfz,hal2,hao2];refine⟨fun _=>trivial,?_⟩;exact⟨_,rfl⟩
theorem Lu (c:Nat) (hc:c<=1114111) (H:List MB):call Pg pol1 160 [.sl true [],.int .u64 c,I 16,.bool false,.bool false] H=some (.tup [.sl false [],T (digI 16 c)],H):=by
 rw[Dh (l:=[.sl false [],.int .u64 c,I 16,.bool false,.bool false]) (H1:=H) rfl rfl rfl];exact p160 c hc H
theorem p132 (c:Nat) (hc:c<=1114111) (H:List MB):call Pg pol1 132 [I c,I 16] H=some (T (digI 16 c),H):=by
 refine AQ Tryz.func132 rfl rfl rfl rfl rfl rfl (fun _=>rfl) rfl rfl ?_ H;have h160:=Lu c hc;have hw:IntKind.u64.wrap (c:Int)=c:=by
  simp[IntKind.wrap,IntKind.signed,IntKind.bits];omega
 simp +contextual -implicitDefEqProofs (disch:=omega) only[Tryz.f132,MH,go_sem,simprocAttr,evBin,Lx,↓AD,↓AC,↓AB,↓AA,h160,hw];exact⟨_,rfl⟩
theorem p129 (c:Nat) (hc:c<=1114111) (H:List MB):call Pg pol1 129 [I c,I 16] H=some (T (digI 16 c),H):=by
 refine AQ Tryz.func129 rfl rfl rfl rfl rfl rfl (fun _=>rfl) rfl rfl ?_ H;have h132:=p132 c hc;simp +contextual -implicitDefEqProofs (disch:=omega) only[Tryz.f129,MI,go_sem,simprocAttr,evBin,Ly,↓AD,↓AC,↓AB,↓AA,h132];exact⟨_,rfl⟩
end
section
attribute [local go_sem] evAppend evBin BA BG bndO bnd evEq eqCells not_false_eq_true not_true_eq_false Ak size_empty length_append map_append tySzE head?_drop mul_one Al Az Ae Am An Go.IntWalk.i64_quo Go.IntWalk.rem_in Ap
theorem p128 (c:Int) (H:List MB):call Pg pol1 128 [I c] H=some (.bool (alnumI c),H):=by
 refine AQ Tryz.func128 rfl rfl rfl rfl rfl rfl (fun _=>rfl) rfl rfl ?_ H;have hc:c<=47∨(48<=c/\c<=57)∨(58<=c/\c<=64)∨(65<=c/\c<=90)∨(91<=c/\c<=96)∨(97<=c/\c<=122)∨122<c:=by omega
 have hf:¬ alnumI c=true->alnumI c=false:=fun h=>by simpa using h
 rw[CM]at hf;have ht:=(CM (c:=c)).2;rcases hc with h|h|h|h|h|h|h
 all_goals
  first
   | (have hp:=ht (by omega)
      simp +contextual -implicitDefEqProofs (disch:=omega) only[Tryz.f128,K6,go_sem,simprocAttr,K0,↓AD,↓AC,↓AB,↓AA];rw[hp];exact⟨_,rfl⟩)
   | (have hp:=hf (by omega)
      simp +contextual -implicitDefEqProofs (disch:=omega) only[Tryz.f128,K6,go_sem,simprocAttr,K0,↓AD,↓AC,↓AB,↓AA];rw[hp];exact⟨_,rfl⟩)
theorem J8:((List.range 128).all fun k=>(Utf8.encode (k:Nat)).data.toList==(strB [(k:Int)]).data.toList)=true:=by decide +kernel
theorem utf1 (k:Nat) (h:k<128):Utf8.encode (k:Int)=strB [(k:Int)]:=by
 have:=all_eq_true.1 J8 k (mem_range.2 h);exact ByteArray.ext (Array.toList_inj.1 (by simpa using this))
theorem p83 (c:Nat) (hc:c<=1114111) (H:List MB):call Pg pol1 83 [I c] H=some (T (symT c),H):=by
 refine AQ Tryz.func83 rfl rfl rfl rfl rfl rfl (fun _=>rfl) rfl rfl ?_ H;have h128:=p128 c;have h129:=p129 c hc;have hw:IntKind.i32.wrap (c:Int)=c:=by
  simp[IntKind.wrap,IntKind.signed,IntKind.bits];omega
 by_cases ha:alnumI c=true∨(c:Int)=32
 ·have e:symT c=[(c:Int)]:=by unfold symT;rw[if_pos ha]
  have hu:=utf1 c (by rw[CM]at ha;omega);rw[e];rcases ha with ha|ha
  ·rw[ha]at h128;simp +contextual -implicitDefEqProofs (disch:=omega) only[Tryz.f83,dd83,go_sem,simprocAttr,mu83,↓AD,↓AC,↓AB,↓AA,h128,hw,hu,evStrOp,AN,sapp,kS1,kS2,kS3,kS4,kS5,kS6,kS7,kS8,kS9,kS10,kS11,kS12,kS13,kS14,kS15,kS16,kS17,kS18,kS19,kS20,kS21,kS22,kS23,kS24,kS25,kS26,kS27,kS28,kS29,kS30,kS31,kS32,kS33,kS34,kS35,kS36,kS37,kS38];exact⟨_,rfl⟩
  ·have ha0:alnumI c=false:=by rw[ha];rfl
   rw[ha0]at h128;simp +contextual -implicitDefEqProofs (disch:=omega) only[Tryz.f83,dd83,go_sem,simprocAttr,mu83,↓AD,↓AC,↓AB,↓AA,h128,hw,hu,evStrOp,AN,sapp,kS1,kS2,kS3,kS4,kS5,kS6,kS7,kS8,kS9,kS10,kS11,kS12,kS13,kS14,kS15,kS16,kS17,kS18,kS19,kS20,kS21,kS22,kS23,kS24,kS25,kS26,kS27,kS28,kS29,kS30,kS31,kS32,kS33,kS34,kS35,kS36,kS37,kS38];exact⟨_,rfl⟩
 ·have ha0:alnumI c=false:=by
   have:=fun h=>ha (.inl h)
   simpa using this
  have ha1:¬ (c:Int)=32:=fun h=>ha (.inr h);rw[ha0]at h128;unfold symT;rw[if_neg ha];by_cases h2:32<(c:Int)/\(c:Int)<127
  ·have hu:=utf1 c (by omega);rw[if_pos h2];simp +contextual -implicitDefEqProofs (disch:=omega) only[Tryz.f83,dd83,go_sem,simprocAttr,mu83,↓AD,↓AC,↓AB,↓AA,h128,hw,hu,evStrOp,AN,sapp,kS1,kS2,kS3,kS4,kS5,kS6,kS7,kS8,kS9,kS10,kS11,kS12,kS13,kS14,kS15,kS16,kS17,kS18,kS19,kS20,kS21,kS22,kS23,kS24,kS25,kS26,kS27,kS28,kS29,kS30,kS31,kS32,kS33,kS34,kS35,kS36,kS37,kS38];exact⟨_,rfl⟩
  ·rw[if_neg h2];by_cases h10:(c:Int)=10
   ·rw[if_pos h10];simp +contextual -implicitDefEqProofs (disch:=omega) only[Tryz.f83,dd83,go_sem,simprocAttr,mu83,↓AD,↓AC,↓AB,↓AA,h128,hw,evStrOp,AN,sapp,kS1,kS2,kS3,kS4,kS5,kS6,kS7,kS8,kS9,kS10,kS11,kS12,kS13,kS14,kS15,kS16,kS17,kS18,kS19,kS20,kS21,kS22,kS23,kS24,kS25,kS26,kS27,kS28,kS29,kS30,kS31,kS32,kS33,kS34,kS35,kS36,kS37,kS38];exact⟨_,rfl⟩
   by_cases h13:(c:Int)=13
   ·rw[if_neg h10,if_pos h13];simp +contextual -implicitDefEqProofs (disch:=omega) only[Tryz.f83,dd83,go_sem,simprocAttr,mu83,↓AD,↓AC,↓AB,↓AA,h128,hw,evStrOp,AN,sapp,kS1,kS2,kS3,kS4,kS5,kS6,kS7,kS8,kS9,kS10,kS11,kS12,kS13,kS14,kS15,kS16,kS17,kS18,kS19,kS20,kS21,kS22,kS23,kS24,kS25,kS26,kS27,kS28,kS29,kS30,kS31,kS32,kS33,kS34,kS35,kS36,kS37,kS38];exact⟨_,rfl⟩
   by_cases h9:(c:Int)=9
   ·rw[if_neg h10,if_neg h13,if_pos h9];simp +contextual -implicitDefEqProofs (disch:=omega) only[Tryz.f83,dd83,go_sem,simprocAttr,mu83,↓AD,↓AC,↓AB,↓AA,h128,hw,evStrOp,AN,sapp,kS1,kS2,kS3,kS4,kS5,kS6,kS7,kS8,kS9,kS10,kS11,kS12,kS13,kS14,kS15,kS16,kS17,kS18,kS19,kS20,kS21,kS22,kS23,kS24,kS25,kS26,kS27,kS28,kS29,kS30,kS31,kS32,kS33,kS34,kS35,kS36,kS37,kS38];exact⟨_,rfl⟩
   rw[if_neg h10,if_neg h13,if_neg h9];have hl:=A4 16 c;generalize digI 16 c=D at *;by_cases h255:255<(c:Int)
   ·rw[if_pos h255];simp +contextual -implicitDefEqProofs (disch:=omega) only[Tryz.f83,dd83,go_sem,simprocAttr,mu83,↓AD,↓AC,↓AB,↓AA,h128,h129,hw,evStrOp,AN,sapp,kS1,kS2,kS3,kS4,kS5,kS6,kS7,kS8,kS9,kS10,kS11,kS12,kS13,kS14,kS15,kS16,kS17,kS18,kS19,kS20,kS21,kS22,kS23,kS24,kS25,kS26,kS27,kS28,kS29,kS30,kS31,kS32,kS33,kS34,kS35,kS36,kS37,kS38];exact⟨_,rfl⟩
   ·rw[if_neg h255];by_cases h16:(c:Int)<16
    ·rw[if_pos h16];simp +contextual -implicitDefEqProofs (disch:=omega) only[Tryz.f83,dd83,go_sem,simprocAttr,mu83,↓AD,↓AC,↓AB,↓AA,h128,h129,hw,evStrOp,AN,sapp,kS1,kS2,kS3,kS4,kS5,kS6,kS7,kS8,kS9,kS10,kS11,kS12,kS13,kS14,kS15,kS16,kS17,kS18,kS19,kS20,kS21,kS22,kS23,kS24,kS25,kS26,kS27,kS28,kS29,kS30,kS31,kS32,kS33,kS34,kS35,kS36,kS37,kS38];exact⟨_,rfl⟩
    ·rw[if_neg h16];simp +contextual -implicitDefEqProofs (disch:=omega) only[Tryz.f83,dd83,go_sem,simprocAttr,mu83,↓AD,↓AC,↓AB,↓AA,h128,h129,hw,evStrOp,AN,sapp,kS1,kS2,kS3,kS4,kS5,kS6,kS7,kS8,kS9,kS10,kS11,kS12,kS13,kS14,kS15,kS16,kS17,kS18,kS19,kS20,kS21,kS22,kS23,kS24,kS25,kS26,kS27,kS28,kS29,kS30,kS31,kS32,kS33,kS34,kS35,kS36,kS37,kS38];exact⟨fun _=>⟨_,rfl⟩,fun _=>⟨_,rfl⟩⟩
end
section
attribute [local go_sem] evBin BA BG bndO bnd evEq eqCells not_false_eq_true not_true_eq_false Ak size_empty length_append tySzE head?_drop mul_one Al Az Ae Am An Go.IntWalk.i64_quo Go.IntWalk.rem_in Ap
theorem p83i (c:Int) (h:0<=c/\c<=1114111) (H:List MB):call Pg pol1 83 [I c] H=some (T (symT c),H):=by
 obtain⟨n,rfl⟩:∃ n:Nat,c=n:=⟨c.toNat,by omega⟩;exact p83 n (by omega) H
theorem DW {l:List Int} (h:Byt l):bytesAV (strB l)=l.map B8:=by
 unfold bytesAV strB;simp only[List.map_map];refine List.map_congr_left fun x hx=>?_;have:=h x hx;simp only[Function.comp_apply,AV.int.injEq,true_and];have:(UInt8.ofNat x.toNat).toNat=x.toNat:=by simp;omega
 omega
theorem Gz (bs:List Int):(bs.map B8).all (fun y=>decide (y.cells.length=1)&&y.cells.all AV.ok)=true:=by
 rw[all_eq_true];intro x hx;obtain⟨c,_,rfl⟩:=mem_map.1 hx;rfl
abbrev wrB (bs:List Int) (n:Nat) (K:List MB):List MB:=.row 2 [.agg [.rf 0 1 0 0,.ms 1 1 n 0 n]] 0::.tr 5 1 (bs.map B8) 0::K
abbrev wr0:List MB:=[.tr 79 2 [.agg [.nilp,.psl none 0 0]] 0]
theorem ID (bs:List Int) (n:Nat) (K:List MB):call Pg pol1 89 [.rf 0 1 0 0] (wrB bs n K)=some (.tup [],wrB bs n K):=by
 rw[Bn];unfold evStep;rw[if_neg (show ¬ pol1.pure 89=true by decide)];rfl
theorem Jq:call Pg pol1 89 [.rf 0 1 0 0] wr0=some (.tup [],[.row 2 [.agg [.rf 0 1 0 0,.psl none 0 0]] 0]):=by
 rw[Bn];unfold evStep;rw[if_neg (show ¬ pol1.pure 89=true by decide)];rfl
theorem Kq {bs cs:List Int}{n m:Nat}{b0:MB}{K:List MB} (hn:bs.length=n) (hm:cs.length=m) (h0:cs≠[]) (hb:Byt cs) (hr:n+m<=4000000000) :
  evAppend Pg (b0::.tr 5 1 (bs.map B8) 0::K) 61 9 (.ms 1 1 n 0 n) (T cs)=some (.ms 1 1 (n+m) 0 (n+m),b0::.tr 5 1 ((bs++cs).map B8) 0::K):=by
 subst hm;have hs:∀ H,srcElems Pg H 5 (T cs)=some (cs.map B8):=fun H=>by
  have e:tyInt Pg 5=some .u8:=by kernel_rfl
  rw[<- DW hb];simp only[srcElems,e];rfl
 rw[C2 (e:=5) (by kernel_rfl) (by kernel_rfl) (k:=1) (by kernel_rfl) (by_:=1) (by kernel_rfl) (ze:=B8 0) (by kernel_rfl) rfl (by omega) (by kernel_rfl) (hs _) (Gz _) (z:=0) (els:=bs.map B8) rfl (by rw[length_map];exact hn) (by omega) (Ap (by rw[length_map];exact hr) (by omega)) (by simpa using h0)];rw[length_map,map_append];rfl
theorem Jy {bs:List Int}{n:Nat}{c:Int}{t:Bool}{b0:MB}{K:List MB} (hn:bs.length=n) (hr:n+1<=4000000000) :
  evAppend Pg (b0::.tr 5 1 (bs.map B8) 0::K) 61 61 (.ms 1 1 n 0 n) (.sl t [B8 c])=some (.ms 1 1 (n+1) 0 (n+1),b0::.tr 5 1 ((bs++[c]).map B8) 0::K):=by
 have hs:∀ H,srcElems Pg H 5 (.sl t [B8 c])=some [B8 c]:=fun H=>rfl;rw[C2 (e:=5) (by kernel_rfl) (by kernel_rfl) (k:=1) (by kernel_rfl) (by_:=1) (by kernel_rfl) (ze:=B8 0) (by kernel_rfl) rfl (by omega) (by kernel_rfl) (hs _) rfl (z:=0) (els:=bs.map B8) rfl (by rw[length_map];exact hn) (by omega) (Ap hr (by omega)) (by simp)];rw[map_append];rfl
theorem Jv {cs:List Int}{m:Nat}{b0:MB} (hm:cs.length=m) (h0:cs≠[]) (hb:Byt cs) (hr:m<=4000000000) :
  evAppend Pg [b0] 61 9 (.sl true []) (T cs)=some (.ms 1 1 m 0 m,[b0,.tr 5 1 (cs.map B8) 0]):=by
 subst hm;have e1:tyElem Pg 61=some 5:=by kernel_rfl
 have e2:tyNotInt Pg 9=true:=by kernel_rfl
 have e3:tySz Pg 5=some 1:=by kernel_rfl
 have e4:tyBytes Pg 5=some 1:=by kernel_rfl
 have e5:tyZero Pg 5=some (B8 0):=by kernel_rfl
 have e6:tyInt Pg 5=some .u8:=by kernel_rfl
 have hs:srcElems Pg [b0] 5 (T cs)=some (cs.map B8):=by
  rw[<- DW hb];simp only[srcElems,e6];rfl
 have hnt:newTag Pg 5=some 5:=by unfold newTag;rw[if_pos e6]
 unfold evAppend;simp only[e1,e2,e3,e4,e5,hs];rw[if_pos ⟨Gz _,by omega,rfl⟩];obtain⟨c,cs',rfl⟩:=List.exists_cons_of_ne_nil h0;have hroom:=Ap (n:=0+((c::cs').map B8).length) (b:=1) (by rw[length_map];omega) (by omega);simp only[List.map_cons]at hroom |-;simp only[List.length_nil];rw[if_pos ⟨trivial,hroom,rfl⟩,hnt];simp[MB.mk]
theorem Ik {c:Int}{t:Bool}{b0:MB}:evAppend Pg [b0] 61 61 (.sl true []) (.sl t [B8 c])=some (.ms 1 1 1 0 1,[b0,.tr 5 1 [B8 c] 0]):=by
 have e1:tyElem Pg 61=some 5:=by kernel_rfl
 have e2:tyNotInt Pg 61=true:=by kernel_rfl
 have e3:tySz Pg 5=some 1:=by kernel_rfl
 have e4:tyBytes Pg 5=some 1:=by kernel_rfl
 have e5:tyZero Pg 5=some (B8 0):=by kernel_rfl
 have e6:tyInt Pg 5=some .u8:=by kernel_rfl
 have hnt:newTag Pg 5=some 5:=by unfold newTag;rw[if_pos e6]
 have hs:srcElems Pg [b0] 5 (.sl t [B8 c])=some [B8 c]:=rfl;unfold evAppend;simp only[e1,e2,e3,e4,e5,hs];rw[if_pos ⟨rfl,by omega,rfl⟩];simp only[List.length_nil];rw[if_pos ⟨trivial,Ap (n:=0 + [B8 c].length) (b:=1) (by simp) (by omega),rfl⟩,hnt];simp[MB.mk]
theorem p39 (bs cs:List Int) (n m:Nat) (K:List MB) (hn:bs.length=n) (hm:cs.length=m) (h0:cs≠[]) (hb:Byt cs) (hr:n+m<=4000000000) :
  call Pg pol1 39 [.rf 0 1 0 0,T cs] (wrB bs n K)=some (.tup [I m,.nili],wrB (bs++cs) (n+m) K):=by
 have fr:frzArgs pol1 39 0 [.rf 0 1 0 0,T cs] (wrB bs n K)=some ([.rf 0 1 0 0,T cs],wrB bs n K):=AR _ _ _ rfl;refine AT (pol:=pol1) Tryz.func39 rfl rfl rfl rfl fr ?_;have rp:∀ H1 r H,retPol pol1 39 H1 r H=some (r,H):=fun H1 r H=>rfl;have hcc:=ID bs n K;have happ:=fun b0=>Kq (b0:=b0) (K:=K) hn hm h0 hb hr;have hsz:(strB cs).size=m:=by rw[AN,hm]
 simp +contextual -implicitDefEqProofs (disch:=omega) only[Tryz.f39,dd39,go_sem,simprocAttr,mu39,↓AD,↓AC,↓AB,↓AA,hcc,happ,hsz];rw[rp];rfl
theorem p39n (cs:List Int) (m:Nat) (hm:cs.length=m) (h0:cs≠[]) (hb:Byt cs) (hr:m<=4000000000) :
  call Pg pol1 39 [.rf 0 1 0 0,T cs] wr0=some (.tup [I m,.nili],wrB cs m []):=by
 have fr:frzArgs pol1 39 0 [.rf 0 1 0 0,T cs] wr0=some ([.rf 0 1 0 0,T cs],wr0):=AR _ _ _ rfl;refine AT (pol:=pol1) Tryz.func39 rfl rfl rfl rfl fr ?_;have rp:∀ H1 r H,retPol pol1 39 H1 r H=some (r,H):=fun H1 r H=>rfl;have hcc:=Jq;have happ:=fun b0=>Jv (b0:=b0) hm h0 hb hr;have hsz:(strB cs).size=m:=by rw[AN,hm]
 simp +contextual -implicitDefEqProofs (disch:=omega) only[Tryz.f39,dd39,go_sem,simprocAttr,map_append,mu39,↓AD,↓AC,↓AB,↓AA,hcc,happ,hsz];rw[rp];rfl
theorem p93 (bs:List Int) (c:Int) (n:Nat) (K:List MB) (hn:bs.length=n) (hr:n+1<=4000000000) :
  call Pg pol1 93 [.rf 0 1 0 0,B8 c] (wrB bs n K)=some (.nili,wrB (bs++[c]) (n+1) K):=by
 have fr:frzArgs pol1 93 0 [.rf 0 1 0 0,B8 c] (wrB bs n K)=some ([.rf 0 1 0 0,B8 c],wrB bs n K):=AR _ _ _ rfl;refine AT (pol:=pol1) Tryz.func93 rfl rfl rfl rfl fr ?_;have rp:∀ H1 r H,retPol pol1 93 H1 r H=some (r,H):=fun H1 r H=>rfl;have hcc:=ID bs n K;have happ:=fun b0 t=>Jy (c:=c) (t:=t) (b0:=b0) (K:=K) hn hr;simp +contextual -implicitDefEqProofs (disch:=omega) only[Tryz.f93,dd93,go_sem,simprocAttr,mu93,↓AD,↓AC,↓AB,↓AA,hcc,happ];rw[rp];rfl
theorem p93n (c:Int):call Pg pol1 93 [.rf 0 1 0 0,B8 c] wr0=some (.nili,wrB [c] 1 []):=by
 have fr:frzArgs pol1 93 0 [.rf 0 1 0 0,B8 c] wr0=some ([.rf 0 1 0 0,B8 c],wr0):=AR _ _ _ rfl;refine AT (pol:=pol1) Tryz.func93 rfl rfl rfl rfl fr ?_;have rp:∀ H1 r H,retPol pol1 93 H1 r H=some (r,H):=fun H1 r H=>rfl;have hcc:=Jq;have happ:=fun b0 t=>Ik (c:=c) (t:=t) (b0:=b0);simp +contextual -implicitDefEqProofs (disch:=omega) only[Tryz.f93,dd93,go_sem,simprocAttr,map_append,mu93,↓AD,↓AC,↓AB,↓AA,hcc,happ];rw[rp];rfl
def PW (bs:List Int):List MB:=if bs=[] then wr0 else wrB bs bs.length []
theorem Dk:PW []=wr0:=rfl
theorem C5 {bs:List Int} (h:bs≠[]):PW bs=wrB bs bs.length []:=if_neg h
theorem w39 (bs cs:List Int) (h0:cs≠[]) (hb:Byt cs) (hr:bs.length+cs.length<=4000000000) :
  call Pg pol1 39 [.rf 0 1 0 0,T cs] (PW bs)=some (.tup [I cs.length,.nili],PW (bs++cs)):=by
 by_cases h:bs=[]
 ·subst h;rw[Dk,nil_append,C5 h0];exact p39n cs _ rfl h0 hb (by simpa using hr)
 ·rw[C5 h,C5 (by simp[h]),length_append];exact p39 bs cs _ _ [] rfl rfl h0 hb hr
theorem w93 (bs:List Int) (c:Int) (hr:bs.length+1<=4000000000):call Pg pol1 93 [.rf 0 1 0 0,B8 c] (PW bs)=some (.nili,PW (bs++[c])):=by
 by_cases h:bs=[]
 ·subst h;rw[Dk,nil_append,C5 (by simp)];exact p93n c
 ·rw[C5 h,C5 (by simp[h]),length_append];exact p93 bs c _ [] rfl hr
theorem KL {f:Nat} (hk:pol1.keep f=false) (ho:pol1.own f=false) (k:IntKind) (n:Int) (H:List MB):retPol pol1 f H (.int k n) H=some (.int k n,H):=by
 have h1:fz (.int k n) H=some (.int k n,H):=rfl;have h2:=Cf H.length [] H;rw[List.append_nil]at h2;unfold retPol;simp only[hk,ho,Bool.false_eq_true,if_false,h1,AV.under,h2,and_self,if_true,List.take_length]
theorem w42 (bs:List Int):call Pg pol1 42 [.rf 0 1 0 0] (PW bs)=some (I bs.length,PW bs):=by
 by_cases h:bs=[]
 ·subst h;rw[Dk];have fr:frzArgs pol1 42 0 [.rf 0 1 0 0] wr0=some ([.rf 0 1 0 0],wr0):=AR _ _ _ rfl;refine AT (pol:=pol1) Tryz.func42 rfl rfl rfl rfl fr ?_;simp +contextual -implicitDefEqProofs (disch:=omega) only[Tryz.f42,dd42,go_sem,simprocAttr,evAppend,map_append,mu42,↓AD,↓AC,↓AB,↓AA];rfl
 ·rw[C5 h];have fr:frzArgs pol1 42 0 [.rf 0 1 0 0] (wrB bs bs.length [])=some ([.rf 0 1 0 0],wrB bs bs.length []):=AR _ _ _ rfl;refine AT (pol:=pol1) Tryz.func42 rfl rfl rfl rfl fr ?_;simp +contextual -implicitDefEqProofs (disch:=omega) only[Tryz.f42,dd42,go_sem,simprocAttr,evAppend,map_append,mu42,↓AD,↓AC,↓AB,↓AA];exact KL rfl rfl _ _ _
theorem w43 (bs:List Int) (hr:bs.length<=4000000000):∃ H',call Pg pol1 43 [.rf 0 1 0 0] (PW bs)=some (T bs,H'):=by
 by_cases h:bs=[]
 ·subst h;rw[Dk];refine⟨wr0,?_⟩;rw[Bn];unfold evStep;rw[if_neg (show ¬ pol1.pure 43=true by decide)];rfl
 ·rw[C5 h];refine⟨mark (wrB bs bs.length []) 1 bs.length,?_⟩;rw[Bn];unfold evStep;rw[if_neg (show ¬ pol1.pure 43=true by decide)];show bsExt 5 [.rf 0 1 0 0] (wrB bs bs.length [])=_;have hl:0<bs.length:=List.length_pos_iff.2 h;have hbo:=Ew bs;simp[bsExt,getRow,hl,hr,hbo]
end
section
attribute [local go_sem] evAppend evBin BA BG bndO bnd evEq eqCells not_false_eq_true not_true_eq_false Ak size_empty length_append map_append tySzE head?_drop mul_one Al Az Ae Am An Go.IntWalk.i64_quo Go.IntWalk.rem_in Ap
def SymS (s:List (Int×Int)):Prop:=∀ p∈s,(0<=p.1/\p.1<=1114111)/\(0<=p.2/\p.2<=1114111)
theorem t84i (c:Int) (h:0<=c/\c<=1114111) (H:List MB):call Pg pol1 84 [I c] H=some (T (symT c),H):=by
 obtain⟨n,rfl⟩:∃ n:Nat,c=n:=⟨c.toNat,by omega⟩;exact t84 n (by omega) H
theorem t55 (s:List (Int×Int)) (hs:SymS s) (hl:s.length<=1000000) (H:List MB):call Pg pol1 55 [.sl false (s.map spanAV)] H=some (T (setT s),H):=by
 refine AQ Tryz.func55 rfl rfl rfl rfl rfl rfl (fun _=>rfl) (by simp[AV.plainL,AV.plain,AE]) rfl ?_ H;by_cases h1:∃ a,s=[(a,a)]
 ·obtain⟨a,rfl⟩:=h1;have h84:=t84i a (hs (a,a) (by simp)).1;have e:setT [(a,a)]=symT a:=by simp[setT]
  simp +contextual -implicitDefEqProofs (disch:=omega) only[Tryz.f55,dd55,go_sem,simprocAttr,mu55,↓AD,↓AC,↓AB,↓AA,h84];rw[e];repeat' (first|intro _|apply And.intro|(unfold dOk;kernel_rfl)|exact St.beq_refl _|exact AI|(show altO _ _ _ _=true;kernel_rfl)|(show (_||_)=true;kernel_rfl)|(show (_&&_)=true;kernel_rfl))
  exact⟨_,rfl⟩
 ·have e:setT s=91::s.flatMap spanT++[93]:=by
   unfold setT;split
   ·rename_i a b;rw[if_neg (fun e=>h1 ⟨a,by rw[e]⟩)];simp
   ·rfl
  rw[e];have hst:∀ i p,s[i]?=some p->(s.take (i+1)).flatMap spanT=(s.take i).flatMap spanT++spanT p:=fun i p hp=>by
   rw[List.take_add_one,hp,List.flatMap_append];simp
  have hsl:∀ i,((s.take i).flatMap spanT).length<=137*1000000:=fun i=>by
   have:=C7 (s.take i);rw[List.length_take]at this;omega
  have hc:(s.length=1/\∃ a b,s[0]?=some (a,b)/\a≠b)∨s.length≠1:=by
   by_cases hl1:s.length=1
   ·left;refine⟨hl1,?_⟩
    match s,hl1 with
    | [(a,b)],_=>exact⟨a,b,rfl,fun e=>h1 ⟨a,by rw[e]⟩⟩
   ·exact .inr hl1
  have hloop:∃ st:Nat->List Int,st 0=[91]/\(∀ i p,s[i]?=some p->st (i+1)=st i++spanT p)/\(∀ i,(st i).length<=138*1000000)/\st s.length=91::s.flatMap spanT:=
   ⟨fun i=>91::(s.take i).flatMap spanT,by simp,fun i p hp=>by simp only[hst i p hp,cons_append],fun i=>by have:=hsl i;simp only[length_cons];omega,by simp⟩
  obtain⟨st,st0,stS,stl,stE⟩:=hloop;rw[<- stE];clear stE hst hsl e;rcases hc with ⟨hl1,a,b,hx,hab⟩|hl1
  ·have hln:((s.length:Int))=1:=by omega
   simp +contextual -implicitDefEqProofs (disch:=omega) only[Tryz.f55,dd55,go_sem,simprocAttr,mu55,↓AD,↓AC,↓AB,↓AA,hx,hln];refine⟨by unfold dOk;kernel_rfl,?_⟩;refine Af (M:=(mskOf (pol1.mask 55) (pol1.gc 55) (pol1.acts 55) 0 5)) rfl s.length (fun i=>(⟨60,[(4,I i),(3,T (st i)),(0,.sl false (s.map spanAV))],[]⟩:St)) (fun _=>True) ?_ ?_ trivial _ (by rw[st0];rfl)
   ·intro i hi _;obtain⟨⟨a,b⟩,hx⟩:∃ p,s[i]?=some p:=⟨_,getElem?_eq_getElem hi⟩;obtain⟨ha,hb⟩:=hs (a,b) (mem_of_getElem? hx);have h84a:=t84i a ha;have h84b:=t84i b hb;have hla:=BW a;have hlb:=BW b;rw[stS i _ hx];have hli:=stl i;generalize st i=X at *;unfold spanT;simp only at ha hb |-;generalize symT a=A at *;generalize symT b=B at *;by_cases hab:a=b
    ·subst hab;simp +contextual -implicitDefEqProofs (disch:=omega) only[Tryz.f55,dd55,go_sem,simprocAttr,mu55,↓AD,↓AC,↓AB,↓AA,hx,h84a,evStrOp,AN,sapp,kS1,kS2,kS3,kS4,kS5,kS6,kS7,kS8,kS9,kS10,kS11,kS12,kS13,kS14,kS15,kS16,kS17,kS18,kS19,kS20,kS21,kS22,kS23,kS24,kS25,kS26,kS27,kS28,kS29,kS30,kS31,kS32,kS33,kS34,kS35,kS36,kS37,kS38];repeat' (first|intro _|apply And.intro|(unfold dOk;kernel_rfl)|exact St.beq_refl _|exact AI|(show altO _ _ _ _=true;kernel_rfl)|(show (_||_)=true;kernel_rfl)|(show (_&&_)=true;kernel_rfl))
     rfl
    ·have hba:¬ b=a:=fun e=>hab e.symm;simp +contextual -implicitDefEqProofs (disch:=omega) only[Tryz.f55,dd55,go_sem,simprocAttr,mu55,↓AD,↓AC,↓AB,↓AA,hx,h84a,h84b,hab,hba,evStrOp,AN,sapp,kS1,kS2,kS3,kS4,kS5,kS6,kS7,kS8,kS9,kS10,kS11,kS12,kS13,kS14,kS15,kS16,kS17,kS18,kS19,kS20,kS21,kS22,kS23,kS24,kS25,kS26,kS27,kS28,kS29,kS30,kS31,kS32,kS33,kS34,kS35,kS36,kS37,kS38];repeat' (first|intro _|apply And.intro|(unfold dOk;kernel_rfl)|exact St.beq_refl _|exact AI|(show altO _ _ _ _=true;kernel_rfl)|(show (_||_)=true;kernel_rfl)|(show (_&&_)=true;kernel_rfl))
     rw[show X++(A++45::B)=X++A++[45]++B by simp];rfl
   ·intro _;have hli:=stl s.length;generalize st s.length=X at *;simp +contextual -implicitDefEqProofs (disch:=omega) only[Tryz.f55,dd55,go_sem,simprocAttr,mu55,↓AD,↓AC,↓AB,↓AA,evStrOp,AN,sapp,kS1,kS2,kS3,kS4,kS5,kS6,kS7,kS8,kS9,kS10,kS11,kS12,kS13,kS14,kS15,kS16,kS17,kS18,kS19,kS20,kS21,kS22,kS23,kS24,kS25,kS26,kS27,kS28,kS29,kS30,kS31,kS32,kS33,kS34,kS35,kS36,kS37,kS38];exact⟨_,rfl⟩
  ·have hln:¬ ((s.length:Int))=1:=by omega
   simp +contextual -implicitDefEqProofs (disch:=omega) only[Tryz.f55,dd55,go_sem,simprocAttr,mu55,↓AD,↓AC,↓AB,↓AA,hln];refine⟨by unfold dOk;kernel_rfl,?_⟩;refine Af (M:=(mskOf (pol1.mask 55) (pol1.gc 55) (pol1.acts 55) 0 5)) rfl s.length (fun i=>(⟨60,[(4,I i),(3,T (st i)),(0,.sl false (s.map spanAV))],[]⟩:St)) (fun _=>True) ?_ ?_ trivial _ (by rw[st0];rfl)
   ·intro i hi _;obtain⟨⟨a,b⟩,hx⟩:∃ p,s[i]?=some p:=⟨_,getElem?_eq_getElem hi⟩;obtain⟨ha,hb⟩:=hs (a,b) (mem_of_getElem? hx);have h84a:=t84i a ha;have h84b:=t84i b hb;have hla:=BW a;have hlb:=BW b;rw[stS i _ hx];have hli:=stl i;generalize st i=X at *;unfold spanT;simp only at ha hb |-;generalize symT a=A at *;generalize symT b=B at *;by_cases hab:a=b
    ·subst hab;simp +contextual -implicitDefEqProofs (disch:=omega) only[Tryz.f55,dd55,go_sem,simprocAttr,mu55,↓AD,↓AC,↓AB,↓AA,hx,h84a,evStrOp,AN,sapp,kS1,kS2,kS3,kS4,kS5,kS6,kS7,kS8,kS9,kS10,kS11,kS12,kS13,kS14,kS15,kS16,kS17,kS18,kS19,kS20,kS21,kS22,kS23,kS24,kS25,kS26,kS27,kS28,kS29,kS30,kS31,kS32,kS33,kS34,kS35,kS36,kS37,kS38];repeat' (first|intro _|apply And.intro|(unfold dOk;kernel_rfl)|exact St.beq_refl _|exact AI|(show altO _ _ _ _=true;kernel_rfl)|(show (_||_)=true;kernel_rfl)|(show (_&&_)=true;kernel_rfl))
     rfl
    ·have hba:¬ b=a:=fun e=>hab e.symm;simp +contextual -implicitDefEqProofs (disch:=omega) only[Tryz.f55,dd55,go_sem,simprocAttr,mu55,↓AD,↓AC,↓AB,↓AA,hx,h84a,h84b,hab,hba,evStrOp,AN,sapp,kS1,kS2,kS3,kS4,kS5,kS6,kS7,kS8,kS9,kS10,kS11,kS12,kS13,kS14,kS15,kS16,kS17,kS18,kS19,kS20,kS21,kS22,kS23,kS24,kS25,kS26,kS27,kS28,kS29,kS30,kS31,kS32,kS33,kS34,kS35,kS36,kS37,kS38];repeat' (first|intro _|apply And.intro|(unfold dOk;kernel_rfl)|exact St.beq_refl _|exact AI|(show altO _ _ _ _=true;kernel_rfl)|(show (_||_)=true;kernel_rfl)|(show (_&&_)=true;kernel_rfl))
     rw[show X++(A++45::B)=X++A++[45]++B by simp];rfl
   ·intro _;have hli:=stl s.length;generalize st s.length=X at *;simp +contextual -implicitDefEqProofs (disch:=omega) only[Tryz.f55,dd55,go_sem,simprocAttr,mu55,↓AD,↓AC,↓AB,↓AA,evStrOp,AN,sapp,kS1,kS2,kS3,kS4,kS5,kS6,kS7,kS8,kS9,kS10,kS11,kS12,kS13,kS14,kS15,kS16,kS17,kS18,kS19,kS20,kS21,kS22,kS23,kS24,kS25,kS26,kS27,kS28,kS29,kS30,kS31,kS32,kS33,kS34,kS35,kS36,kS37,kS38];exact⟨_,rfl⟩
end
section
attribute [local go_sem] evAppend evBin BA BG bndO bnd evEq eqCells not_false_eq_true not_true_eq_false Ak size_empty length_append map_append tySzE head?_drop mul_one Al Az Ae Am An Go.IntWalk.i64_quo Go.IntWalk.rem_in Ap
theorem DL (c:Int):symT c≠[]:=by
 unfold symT;repeat' split
 all_goals simp
theorem BX (l:List Int):AV.plainL (l.map B8)=true:=by
 induction l with
 | nil=>rfl
 | cons a d ih=>simp[AV.plainL,ih];rfl
theorem Le (bs:List Int):(PW bs).length<=2:=by
 unfold PW;split<;>simp
theorem K2 (n:Nat) (h:n<=2):(cfgOf pol1 91 n).lp 4=⟨some [35,34,33,0],some 2,[]⟩:=by
 have e:(cfgOf pol1 91 n).lp 4=if n<=2 then⟨some [35,34,33,0],some 2,[]⟩ else⟨some [35,34,33,0],none,[]⟩:=rfl
 rw[e,if_pos h]
theorem K8 (bs:List Int) (a:Int) (ha:0<=a/\a<=1114111) (hb:bs.length<=2000000000) :
  call Pg pol1 91 [.rf 0 1 0 0,.sl false ([(a,a)].map spanAV)] (PW bs)=some (.tup [],PW (bs++symT a)):=by
 have fr:frzArgs pol1 91 0 [.rf 0 1 0 0,.sl false ([(a,a)].map spanAV)] (PW bs)=some ([.rf 0 1 0 0,.sl false ([(a,a)].map spanAV)],PW bs):=AR _ _ _ rfl;refine AT (pol:=pol1) Tryz.func91 rfl rfl rfl rfl fr ?_;have rp:∀ H1 r H,retPol pol1 91 H1 r H=some (r,H):=fun H1 r H=>rfl;have h83:=p83i a ha;have hl:=BW a;have h39:=w39 bs (symT a) (DL a) (CY a) (by omega);generalize symT a=A at *;generalize PW (bs++A)=X at *;generalize PW bs=Y at *;simp +contextual -implicitDefEqProofs (disch:=omega) only[Tryz.f91,dd91,go_sem,simprocAttr,mu91,↓AD,↓AC,↓AB,↓AA,h83,h39];repeat' (first|intro _|apply And.intro|(unfold dOk;kernel_rfl)|exact St.beq_refl _|exact AI|(show altO _ _ _ _=true;kernel_rfl)|(show (_||_)=true;kernel_rfl)|(show (_&&_)=true;kernel_rfl))
 exact rp _ _ _
theorem J7 (bs:List Int) (s:List (Int×Int)) (hs:SymS s) (hl:s.length<=1000000) (hb:bs.length<=2000000000) (h1:¬ ∃ a,s=[(a,a)]) :
  call Pg pol1 91 [.rf 0 1 0 0,.sl false (s.map spanAV)] (PW bs)=some (.tup [],PW (bs++(91::s.flatMap spanT++[93]))):=by
 have fr:frzArgs pol1 91 0 [.rf 0 1 0 0,.sl false (s.map spanAV)] (PW bs)=some ([.rf 0 1 0 0,.sl false (s.map spanAV)],PW bs):=AR _ _ _ (by simp[mixOk,show pol1.byref 91 0=true from rfl,AV.plain,AE]);refine AT (pol:=pol1) Tryz.func91 rfl rfl rfl rfl fr ?_;have rp:∀ H1 r H,retPol pol1 91 H1 r H=some (r,H):=fun H1 r H=>rfl;have h93a:=w93 bs 91 (by omega);have hst:∀ i p,s[i]?=some p->(s.take (i+1)).flatMap spanT=(s.take i).flatMap spanT++spanT p:=fun i p hp=>by
  rw[List.take_add_one,hp,List.flatMap_append];simp
 have hsl:∀ i,((s.take i).flatMap spanT).length<=137*1000000:=fun i=>by
  have:=C7 (s.take i);rw[List.length_take]at this;omega
 have hloop:∃ st:Nat->List Int,st 0=bs++[91]/\(∀ i p,s[i]?=some p->st (i+1)=st i++spanT p)/\(∀ i,(st i).length<=2500000000)/\st s.length++[93]=bs++(91::s.flatMap spanT++[93])/\∀ i,st i≠[]:=
  ⟨fun i=>bs++91::(s.take i).flatMap spanT,by simp,fun i p hp=>by simp only[hst i p hp,cons_append,List.append_assoc],fun i=>by have:=hsl i;simp only[length_append,length_cons];omega,by simp,fun i=>by simp⟩
 obtain⟨st,st0,stS,stl,stE,stN⟩:=hloop;rw[<- stE];rw[<- st0]at h93a;clear stE hst hsl;rw[C5 (stN 0)]at h93a;have h93e:=p93 (st s.length) 93 _ [] rfl (by have:=stl s.length;omega);rw[C5 (by simp:st s.length++[93]≠[])];have hel:(st s.length++[93]).length=(st s.length).length+1:=by simp
 rw[hel];have hc:(s.length=1/\∃ a b,s[0]?=some (a,b)/\a≠b)∨s.length≠1:=by
  by_cases hl1:s.length=1
  ·left;refine⟨hl1,?_⟩
   match s,hl1 with
   | [(a,b)],_=>exact⟨a,b,rfl,fun e=>h1 ⟨a,by rw[e]⟩⟩
  ·exact .inr hl1
 have hY:=Le bs;generalize PW bs=Y at *;rcases hc with ⟨hl1,a,b,hx,hab⟩|hl1
 ·have hln:((s.length:Int))=1:=by omega
  simp +contextual -implicitDefEqProofs (disch:=omega) only[Tryz.f91,dd91,go_sem,simprocAttr,mu91,↓AD,↓AC,↓AB,↓AA,hx,hln,h93a];refine⟨by unfold dOk;kernel_rfl,?_⟩;refine Af (M:=⟨some [35,34,33,0],some 2,[]⟩) (K2 _ hY) s.length (fun i=>(⟨67,[(35,I i),(34,I 1),(33,.sl false (s.map spanAV)),(0,.rf 0 1 0 0)],wrB (st i) (st i).length []⟩:St)) (fun _=>True) ?_ ?_ trivial _ (by first|rfl|(refine AX (n:=2) (m:=⟨some [35,34,33,0],some 2,[]⟩) rfl rfl ?_ ?_ ?_<;>first|rfl|(simp[keepT,AV.underL,AV.under,MB.under,AG,AJ,AH,AF,AE,AL,AM,-map_take,-map_replicate,-map_set,BX];done)|(simp[keepT,AV.underL,AV.under,MB.under,AG,AJ,AH,AF,AE,AL,AM,-map_take,-map_replicate,-map_set,BX];omega)))
  ·intro i hi _;obtain⟨⟨a,b⟩,hx⟩:∃ p,s[i]?=some p:=⟨_,getElem?_eq_getElem hi⟩;obtain⟨ha,hb2⟩:=hs (a,b) (mem_of_getElem? hx);have h83a:=p83i a ha;have h83b:=p83i b hb2;have hla:=BW a;have hlb:=BW b;have hlt:(i:Int)<1:=by omega
   have hli:=stl i;rw[stS i _ hx];generalize hX:st i=X at *;have h39a:=fun K=>p39 X (symT a) _ _ K rfl rfl (DL a) (CY a) (by omega);unfold spanT;simp only at ha hb2 |-;by_cases hab:a=b
   ·subst hab;generalize symT a=A at *;simp +contextual -implicitDefEqProofs (disch:=omega) only[Tryz.f91,dd91,go_sem,simprocAttr,mu91,↓AD,↓AC,↓AB,↓AA,hx,hlt,h83a,h39a];repeat' (first|intro _|apply And.intro|(unfold dOk;kernel_rfl)|exact St.beq_refl _|exact AI|(show altO _ _ _ _=true;kernel_rfl)|(show (_||_)=true;kernel_rfl)|(show (_&&_)=true;kernel_rfl))
    exact(by first|rfl|(refine AX (n:=2) (m:=⟨some [35,34,33,0],some 2,[]⟩) rfl rfl ?_ ?_ ?_<;>first|rfl|(simp[keepT,AV.underL,AV.under,MB.under,AG,AJ,AH,AF,AE,AL,AM,-map_take,-map_replicate,-map_set,BX];done)|(simp[keepT,AV.underL,AV.under,MB.under,AG,AJ,AH,AF,AE,AL,AM,-map_take,-map_replicate,-map_set,BX];omega)))
   ·have hba:¬ b=a:=fun e=>hab e.symm;rw[if_neg hab];have h93b:=fun K=>p93 (X++symT a) 45 _ K (length_append) (by omega);have h39b:=fun K=>p39 (X++symT a++[45]) (symT b) (X.length+(symT a).length+1) _ K (by simp;omega) rfl (DL b) (CY b) (by omega);generalize symT a=A at *;generalize symT b=B at *;simp +contextual -implicitDefEqProofs (disch:=omega) only[Tryz.f91,dd91,go_sem,simprocAttr,mu91,↓AD,↓AC,↓AB,↓AA,hx,hlt,h83a,h83b,h39a,h39b,h93b,hab,hba];repeat' (first|intro _|apply And.intro|(unfold dOk;kernel_rfl)|exact St.beq_refl _|exact AI|(show altO _ _ _ _=true;kernel_rfl)|(show (_||_)=true;kernel_rfl)|(show (_&&_)=true;kernel_rfl))
    exact(by first|rfl|(refine AX (n:=2) (m:=⟨some [35,34,33,0],some 2,[]⟩) rfl rfl ?_ ?_ ?_<;>first|rfl|(simp[keepT,AV.underL,AV.under,MB.under,AG,AJ,AH,AF,AE,AL,AM,-map_take,-map_replicate,-map_set,BX,add_assoc,add_comm];done)|(simp[keepT,AV.underL,AV.under,MB.under,AG,AJ,AH,AF,AE,AL,AM,-map_take,-map_replicate,-map_set,BX,add_assoc,add_comm];omega)))
  ·intro _;simp +contextual -implicitDefEqProofs (disch:=omega) only[Tryz.f91,dd91,go_sem,simprocAttr,mu91,↓AD,↓AC,↓AB,↓AA,h93e];exact rp _ _ _
 ·have hln:¬ ((s.length:Int))=1:=by omega
  simp +contextual -implicitDefEqProofs (disch:=omega) only[Tryz.f91,dd91,go_sem,simprocAttr,mu91,↓AD,↓AC,↓AB,↓AA,hln,h93a];refine⟨by unfold dOk;kernel_rfl,?_⟩;refine Af (M:=⟨some [35,34,33,0],some 2,[]⟩) (K2 _ hY) s.length (fun i=>(⟨67,[(35,I i),(34,I s.length),(33,.sl false (s.map spanAV)),(0,.rf 0 1 0 0)],wrB (st i) (st i).length []⟩:St)) (fun _=>True) ?_ ?_ trivial _ (by first|rfl|(refine AX (n:=2) (m:=⟨some [35,34,33,0],some 2,[]⟩) rfl rfl ?_ ?_ ?_<;>first|rfl|(simp[keepT,AV.underL,AV.under,MB.under,AG,AJ,AH,AF,AE,AL,AM,-map_take,-map_replicate,-map_set,BX];done)|(simp[keepT,AV.underL,AV.under,MB.under,AG,AJ,AH,AF,AE,AL,AM,-map_take,-map_replicate,-map_set,BX];omega)))
  ·intro i hi _;obtain⟨⟨a,b⟩,hx⟩:∃ p,s[i]?=some p:=⟨_,getElem?_eq_getElem hi⟩;obtain⟨ha,hb2⟩:=hs (a,b) (mem_of_getElem? hx);have h83a:=p83i a ha;have h83b:=p83i b hb2;have hla:=BW a;have hlb:=BW b;have hlt:(i:Int)<(s.length:Int):=by omega
   have hli:=stl i;rw[stS i _ hx];generalize hX:st i=X at *;have h39a:=fun K=>p39 X (symT a) _ _ K rfl rfl (DL a) (CY a) (by omega);unfold spanT;simp only at ha hb2 |-;by_cases hab:a=b
   ·subst hab;generalize symT a=A at *;simp +contextual -implicitDefEqProofs (disch:=omega) only[Tryz.f91,dd91,go_sem,simprocAttr,mu91,↓AD,↓AC,↓AB,↓AA,hx,hlt,h83a,h39a];repeat' (first|intro _|apply And.intro|(unfold dOk;kernel_rfl)|exact St.beq_refl _|exact AI|(show altO _ _ _ _=true;kernel_rfl)|(show (_||_)=true;kernel_rfl)|(show (_&&_)=true;kernel_rfl))
    exact(by first|rfl|(refine AX (n:=2) (m:=⟨some [35,34,33,0],some 2,[]⟩) rfl rfl ?_ ?_ ?_<;>first|rfl|(simp[keepT,AV.underL,AV.under,MB.under,AG,AJ,AH,AF,AE,AL,AM,-map_take,-map_replicate,-map_set,BX];done)|(simp[keepT,AV.underL,AV.under,MB.under,AG,AJ,AH,AF,AE,AL,AM,-map_take,-map_replicate,-map_set,BX];omega)))
   ·have hba:¬ b=a:=fun e=>hab e.symm;rw[if_neg hab];have h93b:=fun K=>p93 (X++symT a) 45 _ K (length_append) (by omega);have h39b:=fun K=>p39 (X++symT a++[45]) (symT b) (X.length+(symT a).length+1) _ K (by simp;omega) rfl (DL b) (CY b) (by omega);generalize symT a=A at *;generalize symT b=B at *;simp +contextual -implicitDefEqProofs (disch:=omega) only[Tryz.f91,dd91,go_sem,simprocAttr,mu91,↓AD,↓AC,↓AB,↓AA,hx,hlt,h83a,h83b,h39a,h39b,h93b,hab,hba];repeat' (first|intro _|apply And.intro|(unfold dOk;kernel_rfl)|exact St.beq_refl _|exact AI|(show altO _ _ _ _=true;kernel_rfl)|(show (_||_)=true;kernel_rfl)|(show (_&&_)=true;kernel_rfl))
    exact(by first|rfl|(refine AX (n:=2) (m:=⟨some [35,34,33,0],some 2,[]⟩) rfl rfl ?_ ?_ ?_<;>first|rfl|(simp[keepT,AV.underL,AV.under,MB.under,AG,AJ,AH,AF,AE,AL,AM,-map_take,-map_replicate,-map_set,BX,add_assoc,add_comm];done)|(simp[keepT,AV.underL,AV.under,MB.under,AG,AJ,AH,AF,AE,AL,AM,-map_take,-map_replicate,-map_set,BX,add_assoc,add_comm];omega)))
  ·intro _;simp +contextual -implicitDefEqProofs (disch:=omega) only[Tryz.f91,dd91,go_sem,simprocAttr,mu91,↓AD,↓AC,↓AB,↓AA,h93e];exact rp _ _ _
theorem w91 (bs:List Int) (s:List (Int×Int)) (hs:SymS s) (hl:s.length<=1000000) (hb:bs.length<=2000000000) :
  call Pg pol1 91 [.rf 0 1 0 0,.sl false (s.map spanAV)] (PW bs)=some (.tup [],PW (bs++setT s)):=by
 by_cases h1:∃ a,s=[(a,a)]
 ·obtain⟨a,rfl⟩:=h1;have e:setT [(a,a)]=symT a:=by simp[setT]
  rw[e];exact K8 bs a (hs (a,a) (by simp)).1 hb
 ·have e:setT s=91::s.flatMap spanT++[93]:=by
   unfold setT;split
   ·rename_i a b;rw[if_neg (fun e=>h1 ⟨a,by rw[e]⟩)];simp
   ·rfl
  rw[e];exact J7 bs s hs hl hb h1
end
end Go.Ev
