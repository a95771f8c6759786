/- What functions of the program compute; no further conditions. -/
import Derived.Test.YtdklnlnbemogbaaGreatG24
set_option linter.unusedVariables false
set_option linter.unusedSimpArgs false
set_option maxHeartbeats 8000000
set_option maxRecDepth 100000
namespace Go.Ev
attribute [local go_sem] evBin AV.cells strOf Ah Ao bndO bnd evEq eqCells not_false_eq_true not_true_eq_false toList_some Array.size_empty List.length_append tySzE List.head?_drop Nat.mul_one AY Ae AU AZ Aa AS
open Go.Proofs Go.RowKit Go.IntWalk
theorem Mp {k:Int} (hk:k=0∨k=1∨k=2):Fine (someCls k 255):=by
 have key:∀ x:Int,(0<=x/\x<=96)∨(101<=x/\x<=255)->clIx (someCls k 255) x=0:=fun x hx=>by
  have h:hasSpan ((someCls k 255)[0]?.getD []) x=true:=by
   rw[AW];rcases hx with h|h
   ·refine⟨(0,96),?_,h.1,h.2⟩;rcases hk with rfl|rfl|rfl<;>simp[someCls]
   ·rcases hk with rfl|rfl|rfl
    ·exact⟨(99,255),by simp[someCls],by simp;omega,by simp;omega⟩
    ·exact⟨(100,255),by simp[someCls],by simp;omega,by simp;omega⟩
    ·exact⟨(101,255),by simp[someCls],by simp;omega,by simp;omega⟩
  obtain⟨s,r,e⟩:∃ s r,someCls k 255=s::r:=by
   unfold someCls;split<;>exact⟨_,_,rfl⟩
  rw[e]at h |-;unfold clIx;rw[List.findIdx_cons];simp only[List.getElem?_cons_zero,Option.getD_some]at h;rw[h];rfl
 intro x y hxy;unfold Alike at hxy;rw[key x (by omega),key y (by omega)]
theorem Jq (l:List Int):Okf (someA l 255)/\(someA l 255).nx.length<=8:=by
 have h:=Om l (top:=255) (.inl rfl);exact⟨⟨h.good,h.dv,Mp (Pa l)⟩,h.nx8⟩
theorem Okf.b {a:AutoL} (h:Okf a):AutoB a:=L6 h.good h.div
theorem Okf.valid {a:AutoL} (h:Okf a):validW (dividesA a.cl) a=0:=CW h.good h.div
theorem CI {a:AutoL} (h:Okf a) (f:AutoL->AutoL×Int):ofValid a f=f a:=by
 unfold ofValid;rw[if_neg (by simp[h.valid])]
noncomputable def polA:Pol:=polL [20,23,25,26,28,30,33,35,36,37]
theorem okA:CfOk Pg (call Pg polA):=okL (by decide)
theorem Bj (f:Nat) (h19:f≠19) (hf:[20,23,25,26,28,30,33,35,36,37].contains f=true) {args:List AV}{H H':List MB}{r:AV} (h:call Pg pol1 f args H=some (r,H')):call Pg polA f args H=some (r,H'):=Qn (by decide) f h19 hf h
theorem a19 (H:List MB):call Pg polA 19 [] H=some (.bool true,H):=l19 _ H
theorem Dv:polA.dead=pol1.dead:=rfl
theorem C5:polA.bdead=pol1.bdead:=rfl
theorem C4:polA.racts=pol1.racts:=rfl
theorem Du:polA.muts=pol1.muts:=rfl
theorem Dw:polA.alts=pol1.alts:=rfl
theorem p25 {a:AutoL} (h:Okf a) {t:List Int} (ht:Tx 255 t) (hl:t.length<=20) (H:List MB):call Pg pol1 25 [autoAV a,.sl false (t.map I)] H=some (.tup [.bool (Lg (autoDA a) t),I 0],H):=by
 have h1:=f25 a h.b t (by omega) H;rw[PN h.valid h.div.topL_eq.2 (by omega) ht]at h1;exact h1
theorem a25 {a:AutoL} (h:Okf a) {t:List Int} (ht:Tx 255 t) (hl:t.length<=20) (H:List MB):call Pg polA 25 [autoAV a,.sl false (t.map I)] H=some (.tup [.bool (Lg (autoDA a) t),I 0],H):=
 Bj 25 (by decide) (by decide) (p25 h ht hl H)
theorem law6 (l k t:List Int) (hl:∀ x∈l,In64 x) (hk:∀ x∈k,In64 x) (ht:∀ x∈t,In64 x) (H:List MB) :
  call Pg polA 6 [.sl false (l.map I),.sl false (k.map I),.sl false (t.map I)] H=some (.bool true,H):=by
 obtain⟨oa,na8⟩:=Jq l;obtain⟨ob,nb8⟩:=Jq k;have q20a:=fun H=>Bj 20 (by decide) (by decide) (f20 l hl false H);have q20b:=fun H=>Bj 20 (by decide) (by decide) (f20 k hk false H);simp only[Bool.false_eq_true,if_false]at q20a q20b;generalize someA l 255=a at *;generalize someA k 255=b at *;obtain⟨na,nb,me,un,nn,al,le,on,g⟩:=QA oa ob na8 nb8;have q23a:=fun H=>Bj 23 (by decide) (by decide) (f23 a H);have q23b:=fun H=>Bj 23 (by decide) (by decide) (f23 b H);have q28a:=fun H=>Bj 28 (by decide) (by decide) (f28 a oa.b H);have q28b:=fun H=>Bj 28 (by decide) (by decide) (f28 b ob.b H);have q28c:=fun H=>Bj 28 (by decide) (by decide) (f28 me g.ome.b H);have q33a:=fun H=>Bj 33 (by decide) (by decide) (f33 na nb g.ona.b g.onb.b H);have q33b:=fun H=>Bj 33 (by decide) (by decide) (f33 a na oa.b g.ona.b H);have q35a:=fun H=>Bj 35 (by decide) (by decide) (f35 a b oa.b ob.b H);have q35b:=fun H=>Bj 35 (by decide) (by decide) (f35 a na oa.b g.ona.b H);have q26a:=fun H=>Bj 26 (by decide) (by decide) (f26 a oa.b H);have q26b:=fun H=>Bj 26 (by decide) (by decide) (f26 le g.ole.b H);have q30a:=fun H=>Bj 30 (by decide) (by decide) (f30R a oa.b H);have q30b:=fun H=>Bj 30 (by decide) (by decide) (f30R on g.oon.b H);have q36a:=fun H=>Bj 36 (by decide) (by decide) (f36e un g.oun.b H);have q36b:=fun H=>Bj 36 (by decide) (by decide) (f36e le g.ole.b H);have q37:∀ H,call Pg polA 37 [.sl false (t.map I),I 20] H=some (.sl false ((textI t 20).map I),H):=fun H=>Bj 37 (by decide) (by decide) (f37t t ht 20 (by omega) H);simp only[CI oa,CI ob,CI g.ome,CI g.ole,CI g.oon,g.c1,g.c2,g.c3,g.c4,g.c5,g.c6,g.c7,g.c8,g.c9,g.c10,g.c11,pairAV]at q28a q28b q28c q33a q33b q35a q35b q26a q26b q30a q30b;have hT:Tx 255 (textI t 20):=fun x hx=>by have:=Nn t 20 x hx;simp only[Sy];omega
 have hTl:(textI t 20).length<=20:=by unfold textI;rw[FG];omega
 generalize textI t 20=T at *;have q25a:=fun H=>a25 oa hT hTl H;have q25b:=fun H=>a25 g.ole hT hTl H;have q25c:=fun H=>p25 g.oon (Iq hT) (by simpa using hTl) H;have q25d:=fun H=>a25 g.ona hT hTl H;have q25e:=fun H=>a25 ob hT hTl H;have q25f:=fun H=>a25 g.oun hT hTl H;obtain⟨g1,g2,g3,g4⟩:=g.lang T hT;rw[g1]at q25b;rw[g2]at q25c;rw[g3]at q25d;rw[g4]at q25f;generalize Lg (autoDA a) T=va at *;generalize Lg (autoDA b) T=vb at *;obtain⟨n1,n2⟩:=g.n1;obtain⟨n3,n4⟩:=g.n2;have few:=g.few;have b1:=oa.good.nx;have b2:=g.ole.good.nx;refine AQ Tryz.func6 rfl rfl rfl rfl rfl rfl (fun _=>rfl) (by simp[AV.plain,AV.plainL,AF]) (by simp[AV.plain]) ?_ H;clear g oa ob hT;simp +contextual (disch:=omega) only[Tryz.f6,dd6,go_sem,simprocAttr,evAppend,List.map_append,mu6,↓AE,↓AD,↓AC,↓AA,Dv,C5,C4,Du,Dw,q20a,q20b,q23a,q23b,q28a,q28b,q28c,q33a,q35a,q36a];have q36c:=q36b;obtain⟨ncl,nnx,nac⟩:=nn;obtain⟨acl,anx,aac⟩:=al;simp only at n1 n2 n3 n4;subst n2 n4;obtain⟨nr,rfl⟩:=List.length_eq_one_iff.1 n1;obtain⟨ar,rfl⟩:=List.length_eq_one_iff.1 n3;have hfew:¬ ((a.nx.length:Int)<(le.nx.length:Int)):=by omega
 simp +contextual (disch:=omega) only[Tryz.f6,dd6,go_sem,simprocAttr,evAppend,List.map_append,mu6,↓AE,↓AD,↓AC,↓AA,Dv,C5,C4,Du,Dw,q33b,q35b,q26a,q26b,q30a,q30b,q36b,hfew,q37];have hrd:∀ n,AV.plainL (List.replicate n (I 0))=true:=fun n=>by
  have:=AF (List.replicate n 0)
  rwa [List.map_replicate]at this
 refine ER (σ:=Nat×List Int) (M:=(mskOf (polA.mask 6) (polA.gc 6) (polA.acts 6) 0 23)) (by rfl) (fun x=>(⟨302,[(28,I ((x.1:Int)-1)),(27,.ms 13 1 x.2.length 0 x.2.length),(26,.sl false (T.map I)),(23,.rf 11 1 0 0),(21,.rf 9 1 0 0),(17,.rf 6 1 0 0),(9,.rf 2 1 0 0),(8,.rf 1 1 0 0),(7,.rf 0 1 0 0)],[.row 3 [autoAV a] 0,.row 3 [autoAV b] 0,.row 3 [autoAV na] 0,.row 3 [autoAV nb] 0,.row 3 [autoAV me] 0,.row 3 [autoAV un] 0,.row 3 [autoAV un] 0,.row 3 [.agg [.sl false (ncl.map setAV9),.sl false [rowAV nr],.sl false [.bool false]]] 0,.row 3 [.agg [.sl false (acl.map setAV9),.sl false [rowAV ar],.sl false [.bool true]]] 0,.row 3 [autoAV le] 0,.row 3 [autoAV le] 0,.row 3 [autoAV on] 0,.row 3 [autoAV le] 0,.row 1 (x.2.map I) 0]⟩:St)) (fun x=>x.1<=T.length/\x.2++(T.take x.1).reverse=T.reverse) (fun x=>x.1) (T.length,[]) ?_ ⟨Nat.le_refl _,by simp⟩ _ (by first|rfl|(refine AN rfl (by rfl) (by rfl) (by rfl) ?_ ?_<;>simp[AV.underL,AV.under,MB.under,AG,AI,AF,AH,AK,AL,-List.map_take,AM,AT,AJ]));rintro⟨j,R⟩ ⟨hj,hR⟩;simp only at hj hR;have hRl:R.length<=20:=by
  have:=congrArg List.length hR;simp at this;omega
 cases j with
 | zero=>
   rw[List.take_zero,List.reverse_nil,List.append_nil]at hR;subst hR;have hz:∀(b0 b1 b2 b3 b4 b5 b6 b7 b8 b9 b10 b11 b12:MB),fz (.ms 13 1 T.reverse.length 0 T.reverse.length) [b0,b1,b2,b3,b4,b5,b6,b7,b8,b9,b10,b11,b12,.row 1 (T.reverse.map I) 0]=some (.sl false (T.reverse.map I),[b0,b1,b2,b3,b4,b5,b6,b7,b8,b9,b10,b11,b12,.row 1 (T.reverse.map I) T.reverse.length]):=fun b0 b1 b2 b3 b4 b5 b6 b7 b8 b9 b10 b11 b12=>by
    have h3:=As (id:=13) (k:=1) (z:=0) (tot:=T.reverse.length) (H:=[b0,b1,b2,b3,b4,b5,b6,b7,b8,b9,b10,b11,b12,.row 1 (T.reverse.map I) 0]) rfl (by simp) (AF _);rw[h3];simp[mark,getRow]
   generalize T.reverse=TR at *;have c25:=fun b0 b1 b2 b3 b4 b5 b6 b7 b8 b9 b10 b11 b12:MB=>Bj 25 (by decide) (by decide) ((A3 (P:=Pg) (pol:=pol1) (f:=25) (args:=[autoAV on,.ms 13 1 TR.length 0 TR.length]) (l:=[autoAV on,.sl false (TR.map I)]) (H:=[b0,b1,b2,b3,b4,b5,b6,b7,b8,b9,b10,b11,b12,.row 1 (TR.map I) 0]) (H1:=[b0,b1,b2,b3,b4,b5,b6,b7,b8,b9,b10,b11,b12,.row 1 (TR.map I) TR.length]) rfl (by
    have hza:=fun H:List MB=>Ap (a:=autoAV on) H (Ac on);simp only[frzArgs,show pol1.byref 25 0=false from rfl,show pol1.byref 25 1=false from rfl,Bool.false_eq_true,if_false,hza,hz]) (by simp[AV.plainL,AV.plain,AM,AT,AJ,AF])).trans (q25c _))
   cases va<;>cases vb
   all_goals
    simp only[Bool.not_false,Bool.not_true,Bool.or_false,Bool.or_true,Bool.false_or,Bool.true_or,Bool.or_self]at q25d q25f;simp +contextual (disch:=omega) only[Tryz.f6,dd6,go_sem,simprocAttr,evAppend,List.map_append,mu6,↓AE,↓AD,↓AC,↓AA,Dv,C5,C4,Du,Dw,q25a,q25b,c25,q25d,q25e,q25f,a19];simp only[true_implies,false_implies,and_true,true_and,forall_const,not_true_eq_false,not_false_eq_true];repeat' apply And.intro
    all_goals
     first
     | exact fzEq rfl rfl
     | intro h
       first
       | exact absurd rfl h
       | exact fzEq rfl rfl
       | exact⟨fzEq rfl rfl,fun h=>absurd rfl h⟩
 | succ j=>
   have e1:((j+1:Nat):Int)-1=(j:Int):=by omega
   have hw:IntKind.i64.wrap ((j:Int)-1)=(j:Int)-1:=by rw[i64_in]<;>omega
   obtain⟨x,hx⟩:∃ x,T[j]?=some x:=⟨_,List.getElem?_eq_getElem (by omega)⟩;have hx':(T.map I)[j]?=some (I x):=by simp[hx]
   rw[Ab hx,List.reverse_append,List.reverse_singleton,List.singleton_append]at hR;rw[e1];have a1:=fun(b0 b1 b2 b3 b4 b5 b6 b7 b8 b9 b10 b11 b12:MB) (t:Bool)=>Ob (H:=[b0,b1,b2,b3,b4,b5,b6,b7,b8,b9,b10,b11,b12,.row 1 (R.map I) 0]) (i:=13) (n:=R.length) (x:=x) (t:=t) rfl (Nat.zero_le _) rfl (by omega);simp only[List.set_cons_succ,List.set_cons_zero]at a1;simp +contextual (disch:=omega) only[Tryz.f6,dd6,go_sem,simprocAttr,mu6,↓AE,↓AD,↓AC,↓AA,Dv,C5,C4,Du,Dw,hx',a1,hw];refine⟨(j,R++[x]),⟨by simp only;omega,by simp only;rw[List.append_assoc,List.singleton_append];exact hR⟩,by simp only;omega,?_⟩;simp only;rw[show (R++[x]).length=R.length+1 by simp];generalize R++[x]=R2;exact(by first|rfl|(refine AN rfl (by rfl) (by rfl) (by rfl) ?_ ?_<;>simp[AV.underL,AV.under,MB.under,AG,AI,AF,AH,AK,AL,-List.map_take,AM,AT,AJ]))
theorem LX (l:List Int) (hl:∀ x∈l,In64 x) (k:List Int) (hk:∀ x∈k,In64 x) (t:List Int) (ht:∀ x∈t,In64 x) (H:List MB) :
 call Pg polA 6 [.sl false (l.map I),.sl false (k.map I),.sl false (t.map I)] H=some (.bool true,H):=law6 l k t hl hk ht H
end Go.Ev
