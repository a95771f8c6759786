/- The statement SyntaxPrints: the function returns true for every input, and changes nothing that was there. No further conditions. -/
import Derived.Test.YtoocnmcbfkpdbaaGreatDoorP18
import Derived.Test.YtoocnmcbfkpdbaaGreatDoorRows
import Derived.ProofKit
import Derived.OpenShut
import Derived.ShutString
import Derived.ChangeOld
import Derived.Below
import Derived.Lay
import Derived.LaidMore
import Derived.Test.YtoocnmcbfkpdbaaGreatDoorTie
import Derived.Test.YtoocnmcbfkpdbaaGreatDoorCards
set_option linter.unusedVariables false
set_option linter.unusedSimpArgs false
namespace Go.Proofs.YtoocnmcbfkpdbaaGreatDoor
open Go.ChangeShapes Go.WideShapes Go.ChangeAt Go.RowKit Go.Ev
theorem own:ownKnob Tryz.prog.godebug=none:=by kernel_rfl
theorem laidOut:laidOutB Tryz.prog=true:=by kernel_rfl
def IsRow (k:IntKind) (w:World) (a:Option Addr) (len cap:Nat) (zs:List Int):Prop:=
 (a=none/\len=0/\cap=0/\zs=[]) ∨
 ∃ b o,a=some ⟨b,o,none⟩/\len<=cap/\zs.length=cap/\(∀ i,i<zs.length->w.cell? ⟨b,o+i,none⟩=some (.int k (zs.getD i 0)))/\∀ n∈zs,(Lit.int k n).wf=true
theorem DV {n:Int} (h:(Lit.int .i64 n).wf=true):In64 n:=by
 simp[Lit.wf]at h;exact h
theorem MU {n:Int} (h:(Lit.int .u8 n).wf=true):0<=n/\n<256:=by
 simp[Lit.wf,IntKind.min,IntKind.max,IntKind.signed,IntKind.bits]at h;omega
def allOf (w:World) (hv:VarsIn w):Imm:=⟨fun b o=>w.cell? ⟨b,o,none⟩,fun _=>false,hv⟩
theorem base (w:World) (hv:VarsIn w):Inv w.heap.size ⟨w,allOf w hv,false⟩ (allOf w hv) [] [] w:=
 ⟨BelowD.refl _ _,Nat.le_refl _,rfl,fun id m l h=>by simp at h,fun i j l l' h=>by simp at h,⟨fun _ _ _ h=>h,fun D h=>by simp[allOf]at h⟩,fun _ _ _=>rfl⟩
abbrev laid5:List (String×DataW Unit):=Rows.syntaxPrintsRow.laid
theorem g64:Tryz.prog.globalNamed "math/bits.deBruijn64tab" = some 5:=by kernel_rfl
theorem t64:(Tryz.prog.globals[5]?).map (·.type)=some 234:=by kernel_rfl
theorem Lt {l:List Value}{j:Nat}{v:Value} (h:(l.drop j).take 1=[v]):l[j]?=some v:=by
 have:=congrArg (fun l:List Value=>l[0]?) h;simp only[List.getElem?_take,List.getElem?_drop,Nat.add_zero,List.getElem?_cons_zero]at this;split at this
 ·exact this
 ·cases this
theorem KR {W:World} (h:laidMetH Tryz.prog laid5 W):VarsIn W:=by
 rw[MakeChecks.laidMetH_plain _ _ _ (by kernel_rfl)]at h;obtain⟨ps,h1,_⟩:=h;obtain⟨_,_,_,_,_,_,_,_,_,_,h2,_⟩:=h1;obtain⟨g,t,cs,fuel,p,q,e1,e2,e3,e4,_⟩:=h2;obtain rfl:=Option.some.inj (g64.symm.trans e1);obtain rfl:=Option.some.inj (t64.symm.trans e2);have c5:Tryz.prog.cellsOf 5=1:=by kernel_rfl
 obtain⟨xs,m,rfl,hx,hlen,hn,hel⟩:=DataW.trod_array Tryz.underlying234 e4;have hc:∀ j,W.cell? ⟨5,j,none⟩=cs[j]?:=fun j=>World.var?_cell e1 e3 j;have hd:xs.map (·.1)=bru64.map fun z=>(DataW.lit (.int .u8 z):DataW Unit):=by
  simp only[Prod.mk.injEq]at hx;have h3:=hx.1;rw[show Rows.laid_math_bits_deBruijn64tab=(DataW.agg (bru64.map fun z=>DataW.lit (.int .u8 z)):DataW Unit) by kernel_rfl]at h3;exact(DataW.agg.inj h3).symm
 intro b j x hx';by_cases hb:b=5
 ·subst hb;have hx2:(bru64.map fun z=>(IntKind.u8,z))[j]?=some x:=hx';rw[List.getElem?_map]at hx2;obtain⟨z,hz,rfl⟩:=Option.map_eq_some_iff.1 hx2;have hj:j<64:=(List.getElem?_eq_some_iff.1 hz).1;have k:=hel j hj;rw[c5,Nat.mul_one]at k;have hy:(xs.map (·.1))[j]?=some (DataW.lit (.int .u8 z)):=by rw[hd,List.getElem?_map,hz];rfl
  rw[List.getElem?_map]at hy;obtain⟨y,hy1,hy2⟩:=Option.map_eq_some_iff.1 hy;rw[hy1]at k;obtain⟨r,a1,a2,_⟩:=DataW.trod_int Tryz.underlying5 k;rw[a2]at hy2;simp only[DataW.lit.injEq,Lit.int.injEq,true_and]at hy2;rw[hy2]at a1;rw[hc,<- Array.getElem?_toList];exact Lt a1
 ·have:VarTab.ints b=[]:=by
   show (if b=5 then _ else [])=[];rw[if_neg hb]
  rw[this]at hx';cases hx'
theorem LE {k:IntKind}{w:World} (hv:VarsIn w) {a:Option Addr}{len cap:Nat}{zs:List Int} (h:IsRow k w a len cap zs) :
  ∃ l:List Int,(∀ n∈l,(Lit.int k n).wf=true)/\Rep (allOf w hv) [] (.sl false (l.map (AV.int k))) (.slice a len cap):=by
 rcases h with ⟨rfl,rfl,rfl,rfl⟩|⟨b,o,rfl,hl,hz,hc,hw⟩
 ·exact⟨[],fun _ h=>by simp at h,.nilsl false⟩
 ·refine⟨zs.take len,fun n hn=>hw n (List.mem_of_mem_take hn),?_⟩;have hlen:((zs.take len).map (AV.int k)).length=len:=by simp;omega
  have key:∀ i j x y,((zs.take len).map (AV.int k))[i]?=some x->x.cells[j]?=some y->i<zs.length/\j=0/\y=AV.int k (zs.getD i 0):=by
   intro i j x y h1 h2;rw[List.getElem?_map]at h1;cases hq:(zs.take len)[i]? with
   | none=>rw[hq]at h1;simp at h1
   | some n=>
     rw[hq]at h1;simp at h1;subst h1;rw[List.getElem?_take]at hq;split at hq
     ·have hiz:=(List.getElem?_eq_some_iff.1 hq).1
      match j,h2 with
      | 0,h2=>
        simp[AV.cells]at h2;exact⟨hiz,rfl,by rw[<- h2,List.getD_eq_getElem?_getD,hq];rfl⟩
      | j+1,h2=>simp[AV.cells]at h2
     ·cases hq
  have:=Rep.sl (I:=allOf w hv) (L:=[]) false ((zs.take len).map (AV.int k)) b o cap 1 (fun i _=>.int k (zs.getD i 0)) (by rw[hlen];exact hl) (fun h=>by cases h)
   (fun x hx=>by obtain⟨n,_,rfl⟩:=List.mem_map.1 hx;rfl)
   (fun i j x y h1 h2=>by
     obtain⟨k1,rfl,rfl⟩:=key i j x y h1 h2;refine⟨?_,rfl⟩;have:=hc i k1;unfold allOf;rw[show o+i*1+0=o+i by omega];exact this)
   (fun i j x y h1 h2=>by
     obtain⟨k1,rfl,rfl⟩:=key i j x y h1 h2;exact .int _ _)
  rw[hlen]at this;exact this
theorem walk (a0:Option Addr) (len0 cap0:Nat) (z0:List Int) (a1:Int) (a2:Int) (a3:Int) (a4:Int) (w:World) (hv:VarsIn w) (w0:IsRow .i64 w a0 len0 cap0 z0) (w1:(Lit.int .i64 a1).wf=true) (w2:(Lit.int .i64 a2).wf=true) (w3:(Lit.int .i64 a3).wf=true) (w4:(Lit.int .i64 a4).wf=true) :
  Calls Tryz.prog 3 #[.slice a0 len0 cap0,.int .i64 a1,.int .i64 a2,.int .i64 a3,.int .i64 a4] w fun e w'=>e=.returned (.bool true)/\Below w.heap.size w w':=by
 obtain⟨l0,h0,r0⟩:=LE hv w0;have hc:=ok1.1 3 _ _ _ _ (by decide) (law3 l0 (fun n hn=>DV (h0 n hn)) a1 (DV w1) a2 (DV w2) a3 (DV w3) a4 (DV w4) []);refine(hc.2 w.heap.size ⟨w,allOf w hv,false⟩ w (allOf w hv) [] _ (base w hv) ⟨rfl,fun i y hy=>?_⟩).mono ?_
 ·match i,hy with
  | 0,hy=>simp at hy;subst hy;exact r0
  | 1,hy=>simp at hy;subst hy;exact .int _ _
  | 2,hy=>simp at hy;subst hy;exact .int _ _
  | 3,hy=>simp at hy;subst hy;exact .int _ _
  | 4,hy=>simp at hy;subst hy;exact .int _ _
  | i+5,hy=>simp at hy
 ·rintro e w' ⟨v,I',L',rfl,hj,_,hv⟩;cases hv;exact⟨rfl,hj.below.toBelow⟩
set_option maxRecDepth 100000 in
theorem LH (os:Os) (started:os.Started) (H:Type) (enc:TypeId×Value->H) :
  ReturnsInHanded {} Tryz.checked os 3 .any (fun w args=>(Rows.syntaxPrintsSpec.pre enc Tryz.prog Tryz.f3 [] false w args/\laidMetH Tryz.prog laid5 w)/\sizedMet enc Tryz.prog Tryz.f3 (OpenSpec.ofChange Rows.syntaxPrintsSpec) false w args)
   (Rows.syntaxPrintsSpec.post enc Tryz.prog Tryz.f3 false true false false):=by
 refine returnsInHanded_of_change_and (C:=Tryz.checked) (X:=fun w _=>laidMetH Tryz.prog laid5 w) (fun _ _ _ hh h=>h.of_heap hh) own started (by kernel_rfl) Tryz.func3
  (ChangeSpec.witness_shaped (enc:=enc) (C:=Tryz.checked) (os:=os) (X:=fun w _=>laidMetH Tryz.prog laid5 w) false (World.laidAll Tryz.prog os laid5) #[.slice none 0 0,.int .i64 0,.int .i64 0,.int .i64 0,.int .i64 0] 8 (World.laidAll_os _ _ _)
    (World.shaped_of_ZipB (by kernel_rfl) (by kernel_rfl)) (by kernel_rfl) (by kernel_rfl) (by kernel_rfl)
    (by rw[MakeChecks.laidMetH_plain _ _ _ (by kernel_rfl)];exact laidMet_laidAll _ (by kernel_rfl) (by kernel_rfl))) ?_
 intro W base args ds gs before hval0 hW _ _ hL _;have hval:∀(j:Nat) t v,Tryz.f3.params[j]?=some t->args[j]?=some v->Value.okWide Tryz.prog W .any base t v:=hval0;have hW':=hW;obtain⟨p,q,hA0,hV,rfl,hfz,hnd⟩:=hW;have hA:DataW.TrodAll enc Tryz.prog W 0 (fun _=>true) true Tryz.f3.params.toList args.toList ds p:=hA0;rw[Tryz.params3]at hA hval;obtain⟨v0,vs0,d0,ds0,p0,q0,hargs,rfl,rfl,h0,r0⟩:=trodAll_cons hA;obtain⟨v1,vs1,d1,ds1,p1,q1,rfl,rfl,rfl,h1,r1⟩:=trodAll_cons r0;obtain⟨v2,vs2,d2,ds2,p2,q2,rfl,rfl,rfl,h2,r2⟩:=trodAll_cons r1;obtain⟨v3,vs3,d3,ds3,p3,q3,rfl,rfl,rfl,h3,r3⟩:=trodAll_cons r2;obtain⟨v4,vs4,d4,ds4,p4,q4,rfl,rfl,rfl,h4,r4⟩:=trodAll_cons r3;obtain⟨rfl,rfl,rfl⟩:=trodAll_nil r4;obtain rfl:args = #[v0,v1,v2,v3,v4]:=by cases args;simp_all
 obtain⟨rfl,rfl⟩:=trodVars_none hV;have hok0:=hval 0 22 v0 rfl rfl;obtain⟨a0,len0,cap0,rfl⟩:=okWide_slice Tryz.underlying22 hok0;have k0:=h0;have lt0:∀ x∈p0,x.block<W.heap.size:=by obtain⟨m,hm⟩:=k0;exact DataW.trod_lt m _ _ _ hm
 obtain⟨z0,w0⟩:∃ zs,IsRow .i64 W a0 len0 cap0 zs:=by
  obtain⟨fuel,hf⟩:=h0;rcases open_ints Tryz.underlying22 Tryz.underlying3 (by kernel_rfl) hf with ⟨hcs,_⟩|⟨x,l,c,zs,hcs,_,hl,hm,hz,_,hcell,hwz⟩
  ·simp[Value.cells]at hcs;obtain⟨rfl,rfl,rfl⟩:=hcs;exact⟨[],.inl ⟨rfl,rfl,rfl,rfl⟩⟩
  ·simp[Value.cells]at hcs;obtain⟨rfl,rfl,rfl⟩:=hcs;have hsp:x.spot=none:=by
    have h:=hok0;simp only[Value.okWide,Tryz.underlying22,Cell.okWide,Cell.ok,World.has]at h;exact h.2.2.2.1
   obtain⟨b,o,sp⟩:=x;simp only at hsp;subst hsp;refine⟨zs,.inr ⟨b,o,rfl,hl,by simpa using hz,fun i hi=>?_,hwz⟩⟩;have:=hcell i hi;unfold Addr.add at this;split at this
   ·rename_i h0;subst h0;simpa using this
   ·exact this
 obtain⟨a1,rfl,rfl,rfl,w1⟩:=open_int Tryz.underlying3 (hval 1 3 v1 rfl rfl) h1;obtain⟨a2,rfl,rfl,rfl,w2⟩:=open_int Tryz.underlying3 (hval 2 3 v2 rfl rfl) h2;obtain⟨a3,rfl,rfl,rfl,w3⟩:=open_int Tryz.underlying3 (hval 3 3 v3 rfl rfl) h3;obtain⟨a4,rfl,rfl,rfl,w4⟩:=open_int Tryz.underlying3 (hval 4 3 v4 rfl rfl) h4;clear hA0 hval0;refine(walk a0 len0 cap0 z0 a1 a2 a3 a4 W (KR hL) w0 w1 w2 w3 w4).mono fun e W' ⟨he,bel⟩=>?_;subst he;exact⟨_,rfl,_,_,_,[],_,[],hW',trodAll_mk1 (shut_bool Tryz.underlying4 _),(trodAll_cons_mk (Below.trod laidOut (by kernel_rfl) (of_decide_eq_true (by kernel_rfl)) k0 bel lt0) (trodAll_cons_mk (shut_int Tryz.underlying3 w1) (trodAll_cons_mk (shut_int Tryz.underlying3 w2) (trodAll_cons_mk (shut_int Tryz.underlying3 w3) (trodAll_cons_mk (shut_int Tryz.underlying3 w4) trodAll_mk0))))),rfl,bel.frame _,fun h=>by cases h⟩
theorem over:Rows.syntaxPrintsRow.holds Tryz.pinned (OpenSpec.ofChange Rows.syntaxPrintsSpec):=
 OpenClaim.holds_of_wide 3 Tryz.f3 rfl rfl rfl rfl rfl rfl rfl ⟨rfl,rfl,rfl,rfl,rfl⟩ rfl rfl rfl rfl rfl (by kernel_rfl) Tryz.func3 (by kernel_rfl)
  (of_decide_eq_true (by kernel_rfl)) (by unfold Func.isWrapper;first|(rw[if_pos (by decide +kernel)];kernel_rfl)|(rw[if_neg (by decide +kernel)];exact⟨rfl,rfl⟩))
  (fun os started H enc _=>LH os started H enc)
theorem syntaxPrints_holds:Rows.SyntaxPrintsCardSaid:=
 Claim7.holds_tied_plain_at .later [] [.data,.data,.data,.data,.pinned] true (true,"44aedfb3dae7f95294089b8e720c910342bc35c5c38b21e0fe2e2fab0fdd4342") false
  over (fun _ h=>by cases h) (by kernel_rfl) (fun _ h=>by cases h) syntaxPrints_row_tie rfl ⟨rfl,rfl⟩ (by kernel_rfl) rfl
  (fun f fn hf hfn=>by
    obtain rfl:f=3:=Option.some.inj ((show Tryz.prog.funcNamed "rexmill/rexmilllaw06.SyntaxPrints" = some 3 by kernel_rfl).symm.trans hf) |>.symm;obtain rfl:fn=Tryz.f3:=(Option.some.inj (Tryz.func3.symm.trans hfn)).symm;exact⟨by kernel_rfl,fun j t ht=>by
     rw[Tryz.params3]at ht;have hm:t∈[22,3,3,3,3]:=by simpa using Array.mem_of_getElem? ht
     have hall:([22,3,3,3,3].all fun u=>!Tryz.prog.wantsStandIn u)=true:=by kernel_rfl
     exact(show Tryz.prog.wantsStandIn t=false by simpa using List.all_eq_true.1 hall t hm)⟩)
  (by kernel_rfl)
#print axioms syntaxPrints_holds
end Go.Proofs.YtoocnmcbfkpdbaaGreatDoor
