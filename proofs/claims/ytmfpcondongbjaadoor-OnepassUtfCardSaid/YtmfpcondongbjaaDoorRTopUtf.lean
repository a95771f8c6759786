/- The statement OnepassUtf: the function returns true for every input, and changes nothing that was there. No further conditions. -/
import Derived.Test.YtmfpcondongbjaaDoorR21
import Derived.Test.YtmfpcondongbjaaDoorRows
import Derived.WalkKit
import Derived.ProofKit
import Derived.OpenShut
import Derived.ShutString
import Derived.ChangeOld
import Derived.Below
import Derived.LaidMore
import Derived.Stop.Joined
import Derived.Test.YtmfpcondongbjaaDoorTie
import Derived.Test.YtmfpcondongbjaaDoorCards
set_option linter.unusedVariables false
set_option linter.unusedSimpArgs false
namespace Go.Proofs.YtmfpcondongbjaaDoor
open Go.ChangeShapes Go.WideShapes Go.ChangeAt Go.RowKit Go.Ev
theorem own:ownKnob Tryd.prog.godebug=none:=by kernel_rfl
theorem laidOut:laidOutB Tryd.prog=true:=by kernel_rfl
def IsRow (k:IntKind) (w:World) (a:Option Addr) (len cap:Nat) (zs:List Int):Prop:=
 (a=none∧len=0∧cap=0∧zs=[]) ∨
 ∃ b o,a=some ⟨b,o,none⟩∧len≤cap∧zs.length=cap∧(∀ i,i < zs.length→w.cell? ⟨b,o+i,none⟩=some (.int k (zs.getD i 0)))∧∀ n∈zs,(Lit.int k n).wf=true
theorem zIA {n:Int} (h:(Lit.int .i64 n).wf=true):In64 n:=by
 simp[Lit.wf]at h
 exact h
theorem zMT {n:Int} (h:(Lit.int .u8 n).wf=true):0≤n∧n < 256:=by
 simp[Lit.wf,IntKind.min,IntKind.max,IntKind.signed,IntKind.bits]at h
 omega
def allOf (w:World) (hv:VarsIn w):Imm:=⟨fun b o=>w.cell? ⟨b,o,none⟩,fun _=>false,hv⟩
theorem base (w:World) (hv:VarsIn w):Inv w.heap.size ⟨w,allOf w hv,false⟩ (allOf w hv) [] [] w:=
 ⟨BelowD.refl _ _,Nat.le_refl _,rfl,fun id m l h=>by simp at h,fun i j l l' h=>by simp at h,⟨fun _ _ _ h=>h,fun D h=>by simp[allOf]at h⟩,fun _ _ _=>rfl⟩
theorem zLi:Tryd.prog.globalNamed "rexmill/text.forms" = some 0:=by kernel_rfl
theorem zLY:(Tryd.prog.globals[0]?).map (·.type)=some 115:=by kernel_rfl
abbrev laid1:List (String×DataW Unit):=[("rexmill/text.forms",Rows.laid_rexmill_text_forms)]
theorem zKp (os:Os) (args:Array Value):laidMetH Tryd.prog laid1 ((World.doorLaid Tryd.prog 400 os).forCall (fun _ _=>0) ⟨#[],args,[]⟩).memory:=
 laidMetH_of_parts3 (fuel:=8) (laidMet_of_run' 8 (by kernel_rfl) (by kernel_rfl)) (by kernel_rfl) (by kernel_rfl)
theorem zMF {l:List Value} {a n j:Nat} {v:Value} (h:(((l.drop a).take n).drop j).take 1=[v]):l[a+j]?=some v:=by
 have:=congrArg (fun l:List Value=>l[0]?) h
 simp only[List.getElem?_take,List.getElem?_drop,Nat.add_zero,List.getElem?_cons_zero]at this
 split at this
 ·split at this
  ·exact this
  ·cases this
 ·cases this
theorem zGI {W:World} {base:Nat} {spare:Nat→Bool} {held:Bool} {enc:TypeId×Value→Unit} {m:Nat} {cs:List Value} {o:Nat} {ps:List MemPlace} {a b c d:Int}
  (h:DataW.trod enc Tryd.prog W base spare held m 114 ((cs.drop o).take 4)=some (.agg [.lit (.int .i64 a),.lit (.int .i64 b),.lit (.int .i64 c),.lit (.int .i64 d)],ps)) :
  cs[o+0]?=some (.int .i64 a)∧cs[o+1]?=some (.int .i64 b)∧cs[o+2]?=some (.int .i64 c)∧cs[o+3]?=some (.int .i64 d):=by
 have c3:Tryd.prog.cellsOf 3=1:=by kernel_rfl
 obtain⟨ys,n,_,e,hl,hlen,hf⟩:=DataW.trod_struct Tryd.underlying114 h
 simp only[Prod.mk.injEq,DataW.agg.injEq]at e
 obtain⟨e,_⟩:=e
 have one:∀(j:Nat) (f:Field) (k:Int),DataW.trod enc Tryd.prog W base spare held n f.type (((((cs.drop o).take 4).drop f.offset)).take (Tryd.prog.cellsOf f.type))=ys[j]?→f.type=3→f.offset=j→(ys.map fun x=>x.1)[j]?=some (.lit (.int .i64 k))→cs[o+j]?=some (.int .i64 k):=by
  intro j f k h1 h2 h3 h4
  rw[h2,h3,c3]at h1
  rw[List.getElem?_map]at h4
  cases hy:ys[j]? with
  | none=>rw[hy]at h4;cases h4
  | some y=>
    rw[hy]at h4 h1
    simp only[Option.map_some,Option.some.injEq]at h4
    obtain⟨r,e1,e2,_⟩:=DataW.trod_int Tryd.underlying3 h1
    rw[e2]at h4
    simp only[DataW.lit.injEq,Lit.int.injEq,true_and]at h4
    rw[h4]at e1
    exact zMF e1
 exact⟨one 0 _ a (hf 0 _ rfl) rfl rfl (by rw[← e];rfl),one 1 _ b (hf 1 _ rfl) rfl rfl (by rw[← e];rfl),one 2 _ c (hf 2 _ rfl) rfl rfl (by rw[← e];rfl),one 3 _ d (hf 3 _ rfl) rfl rfl (by rw[← e];rfl)⟩
theorem zLG {W:World} (h:laidMetH Tryd.prog laid1 W):VarsIn W:=by
 rw[MakeChecks.laidMetH_plain _ _ _ (by kernel_rfl)]at h
 obtain⟨ps,⟨g0,t0,cs0,f0,p0,q0,hg0,ht0,hv0,hd0,_⟩,_⟩:=h
 obtain rfl:=Option.some.inj (zLi.symm.trans hg0)
 obtain rfl:=Option.some.inj (zLY.symm.trans ht0)
 have c114:Tryd.prog.cellsOf 114=4:=by kernel_rfl
 obtain⟨xs,m1,rfl,hx1,hlen,hn,hel⟩:=DataW.trod_array Tryd.underlying115 hd0
 have hc:∀ j,W.cell? ⟨0,j,none⟩=cs0[j]?:=fun j=>World.var?_cell hg0 hv0 j
 rw[c114]at hel
 match xs,hn,hx1,hel with
 | [x0,x1,x2,x3],_,hx1,hel=>
   simp only[List.map_cons,List.map_nil,Prod.mk.injEq,DataW.agg.injEq,Rows.laid_rexmill_text_forms,List.cons.injEq,and_true]at hx1
   obtain⟨⟨e0,e1,e2,e3⟩,_⟩:=hx1
   have k0:=hel 0 (by decide)
   have k1:=hel 1 (by decide)
   have k2:=hel 2 (by decide)
   have k3:=hel 3 (by decide)
   obtain⟨d0,q0⟩:=x0
   obtain⟨d1,q1⟩:=x1
   obtain⟨d2,q2⟩:=x2
   obtain⟨d3,q3⟩:=x3
   simp only at e0 e1 e2 e3
   subst e0;subst e1;subst e2;subst e3
   obtain⟨a0,a1,a2,a3⟩:=zGI k0
   obtain⟨b0,b1,b2,b3⟩:=zGI k1
   obtain⟨c0,c1,c2,c3⟩:=zGI k2
   obtain⟨d0,d1,d2,d3⟩:=zGI k3
   intro b j x hx
   by_cases hb:b=0
   ·subst hb
    rw[hc,← Array.getElem?_toList]
    have hx':([0,127,0,0,128,2047,192,1,2048,65535,224,2,65536,1114111,240,3]:List Int)[j]?=some x:=hx
    match j,hx' with
    | 0,h=>cases h;exact a0
    | 1,h=>cases h;exact a1
    | 2,h=>cases h;exact a2
    | 3,h=>cases h;exact a3
    | 4,h=>cases h;exact b0
    | 5,h=>cases h;exact b1
    | 6,h=>cases h;exact b2
    | 7,h=>cases h;exact b3
    | 8,h=>cases h;exact c0
    | 9,h=>cases h;exact c1
    | 10,h=>cases h;exact c2
    | 11,h=>cases h;exact c3
    | 12,h=>cases h;exact d0
    | 13,h=>cases h;exact d1
    | 14,h=>cases h;exact d2
    | 15,h=>cases h;exact d3
    | j+16,h=>simp at h
   ·have:VarTab.ints b=[]:=by
     show (if b=0 then _ else [])=[]
     rw[if_neg hb]
    rw[this]at hx
    cases hx
theorem zLZ {k:IntKind} {w:World} (hv:VarsIn w) {a:Option Addr} {len cap:Nat} {zs:List Int} (h:IsRow k w a len cap zs) :
  ∃ l:List Int,(∀ n∈l,(Lit.int k n).wf=true)∧Rep (allOf w hv) [] (.sl false (l.map (AV.int k))) (.slice a len cap):=by
 rcases h with ⟨rfl,rfl,rfl,rfl⟩|⟨b,o,rfl,hl,hz,hc,hw⟩
 ·exact⟨[],fun _ h=>by simp at h,.nilsl false⟩
 ·refine⟨zs.take len,fun n hn=>hw n (List.mem_of_mem_take hn),?_⟩
  have hlen:((zs.take len).map (AV.int k)).length=len:=by simp;omega
  have key:∀ i j x y,((zs.take len).map (AV.int k))[i]?=some x→x.cells[j]?=some y→i < zs.length∧j=0∧y=AV.int k (zs.getD i 0):=by
   intro i j x y h1 h2
   rw[List.getElem?_map]at h1
   cases hq:(zs.take len)[i]? with
   | none=>rw[hq]at h1;simp at h1
   | some n=>
     rw[hq]at h1
     simp at h1
     subst h1
     rw[List.getElem?_take]at hq
     split at hq
     ·have hiz:=(List.getElem?_eq_some_iff.1 hq).1
      match j,h2 with
      | 0,h2=>
        simp[AV.cells]at h2
        exact⟨hiz,rfl,by rw[← h2,List.getD_eq_getElem?_getD,hq];rfl⟩
      | j+1,h2=>simp[AV.cells]at h2
     ·cases hq
  have:=Rep.sl (I:=allOf w hv) (L:=[]) false ((zs.take len).map (AV.int k)) b o cap 1 (fun i _=>.int k (zs.getD i 0)) (by rw[hlen];exact hl) (fun h=>by cases h)
   (fun x hx=>by obtain⟨n,_,rfl⟩:=List.mem_map.1 hx;rfl)
   (fun i j x y h1 h2=>by
     obtain⟨k1,rfl,rfl⟩:=key i j x y h1 h2
     refine⟨?_,rfl⟩
     have:=hc i k1
     unfold allOf
     rw[show o+i * 1+0=o+i by omega]
     exact this)
   (fun i j x y h1 h2=>by
     obtain⟨k1,rfl,rfl⟩:=key i j x y h1 h2
     exact .int _ _)
  rw[hlen]at this
  exact this
theorem walk (a0:Option Addr) (len0 cap0:Nat) (z0:List Int) (a1:Int) (a2:Int) (w:World) (hv:VarsIn w) (w0:IsRow .i64 w a0 len0 cap0 z0) (w1:(Lit.int .i64 a1).wf=true) (w2:(Lit.int .i64 a2).wf=true) :
  Calls Tryd.prog 3 #[.slice a0 len0 cap0,.int .i64 a1,.int .i64 a2] w fun e w'=>e=.returned (.bool true)∧Below w.heap.size w w':=by
 obtain⟨l0,h0,r0⟩:=zLZ hv w0
 have hc:=okX.1 3 _ _ _ _ (by decide) (law3 l0 (fun n hn=>zIA (h0 n hn)) a1 (zIA w1) a2 (zIA w2) [])
 refine(hc.2 w.heap.size ⟨w,allOf w hv,false⟩ w (allOf w hv) [] _ (base w hv) ⟨rfl,fun i y hy=>?_⟩).mono ?_
 ·match i,hy with
  | 0,hy=>simp at hy;subst hy;exact r0
  | 1,hy=>simp at hy;subst hy;exact .int _ _
  | 2,hy=>simp at hy;subst hy;exact .int _ _
  | i+3,hy=>simp at hy
 ·rintro e w' ⟨v,I',L',rfl,hj,_,hv⟩
  cases hv
  exact⟨rfl,hj.below.toBelow⟩
set_option maxRecDepth 100000 in
theorem zLe (os:Os) (started:os.Started) (H:Type) (enc:TypeId×Value→H) :
  ReturnsInHanded {} Tryd.checked os 3 .any (fun w args=>(Rows.onepassUtfSpec.pre enc Tryd.prog Tryd.f3 [] false w args∧laidMetH Tryd.prog laid1 w)∧sizedMet enc Tryd.prog Tryd.f3 (OpenSpec.ofChange Rows.onepassUtfSpec) false w args)
   (Rows.onepassUtfSpec.post enc Tryd.prog Tryd.f3 false true false false):=by
 refine returnsInHanded_of_change_and (C:=Tryd.checked) (X:=fun w _=>laidMetH Tryd.prog laid1 w) (fun _ _ _ hh h=>h.of_heap hh) own started (by kernel_rfl) Tryd.func3
  (ChangeSpec.witness_shaped (enc:=enc) (C:=Tryd.checked) (os:=os) (X:=fun w _=>laidMetH Tryd.prog laid1 w) false (World.doorLaid Tryd.prog 400 os) #[.slice none 0 0,.int .i64 0,.int .i64 0] 8 rfl (World.shaped_of_RefB (by kernel_rfl) (by kernel_rfl)) (by kernel_rfl) (by kernel_rfl) (by kernel_rfl) (zKp os _)) ?_
 intro W base args ds gs before hval0 hW _ _ hL _
 have hval:∀(j:Nat) t v,Tryd.f3.params[j]?=some t→args[j]?=some v→Value.okWide Tryd.prog W .any base t v:=hval0
 have hW':=hW
 obtain⟨p,q,hA0,hV,rfl,hfz,hnd⟩:=hW
 have hA:DataW.TrodAll enc Tryd.prog W 0 (fun _=>true) true Tryd.f3.params.toList args.toList ds p:=hA0
 rw[Tryd.params3]at hA hval
 obtain⟨v0,vs0,d0,ds0,p0,q0,hargs,rfl,rfl,h0,r0⟩:=trodAll_cons hA
 obtain⟨v1,vs1,d1,ds1,p1,q1,rfl,rfl,rfl,h1,r1⟩:=trodAll_cons r0
 obtain⟨v2,vs2,d2,ds2,p2,q2,rfl,rfl,rfl,h2,r2⟩:=trodAll_cons r1
 obtain⟨rfl,rfl,rfl⟩:=trodAll_nil r2
 obtain rfl:args = #[v0,v1,v2]:=by cases args;simp_all
 obtain⟨rfl,rfl⟩:=trodVars_none hV
 have hok0:=hval 0 22 v0 rfl rfl
 obtain⟨a0,len0,cap0,rfl⟩:=okWide_slice Tryd.underlying22 hok0
 have k0:=h0
 have lt0:∀ x∈p0,x.block < W.heap.size:=by obtain⟨m,hm⟩:=k0;exact DataW.trod_lt m _ _ _ hm
 obtain⟨z0,w0⟩:∃ zs,IsRow .i64 W a0 len0 cap0 zs:=by
  obtain⟨fuel,hf⟩:=h0
  rcases open_ints Tryd.underlying22 Tryd.underlying3 (by kernel_rfl) hf with ⟨hcs,_⟩|⟨x,l,c,zs,hcs,_,hl,hm,hz,_,hcell,hwz⟩
  ·simp[Value.cells]at hcs
   obtain⟨rfl,rfl,rfl⟩:=hcs
   exact⟨[],.inl ⟨rfl,rfl,rfl,rfl⟩⟩
  ·simp[Value.cells]at hcs
   obtain⟨rfl,rfl,rfl⟩:=hcs
   have hsp:x.spot=none:=by
    have h:=hok0
    simp only[Value.okWide,Tryd.underlying22,Cell.okWide,Cell.ok,World.has]at h
    exact h.2.2.2.1
   obtain⟨b,o,sp⟩:=x
   simp only at hsp
   subst hsp
   refine⟨zs,.inr ⟨b,o,rfl,hl,by simpa using hz,fun i hi=>?_,hwz⟩⟩
   have:=hcell i hi
   unfold Addr.add at this
   split at this
   ·rename_i h0;subst h0;simpa using this
   ·exact this
 obtain⟨a1,rfl,rfl,rfl,w1⟩:=open_int Tryd.underlying3 (hval 1 3 v1 rfl rfl) h1
 obtain⟨a2,rfl,rfl,rfl,w2⟩:=open_int Tryd.underlying3 (hval 2 3 v2 rfl rfl) h2
 clear hA0 hval0
 refine(walk a0 len0 cap0 z0 a1 a2 W (zLG hL) w0 w1 w2).mono fun e W' ⟨he,bel⟩=>?_
 subst he
 exact⟨_,rfl,_,_,_,[],_,[],hW',trodAll_mk1 (shut_bool Tryd.underlying4 _),(trodAll_cons_mk (Below.trod laidOut (by kernel_rfl) (of_decide_eq_true (by kernel_rfl)) k0 bel lt0) (trodAll_cons_mk (shut_int Tryd.underlying3 w1) (trodAll_cons_mk (shut_int Tryd.underlying3 w2) trodAll_mk0))),rfl,bel.frame _,fun h=>by cases h⟩
theorem over:Rows.onepassUtfRow.holds Tryd.pinned (OpenSpec.ofChange Rows.onepassUtfSpec):=
 OpenClaim.holds_of_wide 3 Tryd.f3 rfl rfl rfl rfl rfl rfl rfl ⟨rfl,rfl,rfl,rfl,rfl⟩ rfl rfl rfl rfl rfl (by kernel_rfl) Tryd.func3 (by kernel_rfl)
  (of_decide_eq_true (by kernel_rfl)) (by unfold Func.isWrapper;first|(rw[if_pos (by decide +kernel)];kernel_rfl)|(rw[if_neg (by decide +kernel)];exact⟨rfl,rfl⟩))
  (fun os started H enc _=>zLe os started H enc)
theorem onepassUtf_holds:Rows.OnepassUtfCardSaid:=
 Claim7.holds_tied_plain_at .later [] [.data] true (true,"b1d22d851c9b3179579be77278f12efca8252611bdfb9119ab3449c795c5da85") false
  over (fun _ h=>by cases h) (by kernel_rfl) (fun _ h=>by cases h) onepassUtf_row_tie rfl ⟨rfl,rfl⟩ (by kernel_rfl) rfl
  (fun f fn hf hfn=>by
    obtain rfl:f=3:=Option.some.inj ((show Tryd.prog.funcNamed "rexmill/rexmilllaw13.OnepassUtf" = some 3 by kernel_rfl).symm.trans hf) |>.symm
    obtain rfl:fn=Tryd.f3:=(Option.some.inj (Tryd.func3.symm.trans hfn)).symm
    exact⟨by kernel_rfl,fun j t ht=>by
     rw[Tryd.params3]at ht
     have hm:t∈[22,3,3]:=by simpa using Array.mem_of_getElem? ht
     have hall:([22,3,3].all fun u=>!Tryd.prog.wantsStandIn u)=true:=by kernel_rfl
     exact(show Tryd.prog.wantsStandIn t=false by simpa using List.all_eq_true.1 hall t hm)⟩)
  (by kernel_rfl)
#print axioms onepassUtf_holds
end Go.Proofs.YtmfpcondongbjaaDoor
