/- The statement DerivAuto: the function returns true for every input, and changes nothing that was there. No further conditions. -/
import Derived.Test.YtkolcijbdendhaaGreatF28
import Derived.Test.YtkolcijbdendhaaGreatRows
import Derived.ProofKit
import Derived.OpenShut
import Derived.ShutString
import Derived.ChangeOld
import Derived.Below
set_option linter.unusedVariables false
set_option linter.unusedSimpArgs false
namespace Go.Proofs.YtkolcijbdendhaaGreat
open Go.ChangeShapes Go.WideShapes Go.ChangeAt Go.RowKit Go.Ev
theorem own:ownKnob Tryz.prog.godebug=none:=by kernel_rfl
theorem laidOut:laidOutB Tryz.prog=true:=by kernel_rfl
def IsRow (k:IntKind) (w:World) (a:Option Addr) (len cap:Nat) (zs:List Int):Prop:=
 (a=none/\len=0/\cap=0/\zs=[]) ∨
 ∃ b o,a=some ⟨b,o,none⟩/\len<=cap/\zs.length=cap/\(∀ i,i<zs.length->w.cell? ⟨b,o+i,none⟩=some (.int k (zs.getD i 0)))/\∀ n∈zs,(Lit.int k n).wf=true
theorem Md {n:Int} (h:(Lit.int .i64 n).wf=true):In64 n:=by
 simp[Lit.wf]at h;exact h
theorem Sx {n:Int} (h:(Lit.int .u8 n).wf=true):0<=n/\n<256:=by
 simp[Lit.wf,IntKind.min,IntKind.max,IntKind.signed,IntKind.bits]at h;omega
def allOf (w:World):Imm:=⟨fun b o=>w.cell? ⟨b,o,none⟩,fun _=>false⟩
theorem base (w:World):Inv w.heap.size ⟨w,allOf w,false⟩ (allOf w) [] [] w:=
 ⟨BelowD.refl _ _,Nat.le_refl _,rfl,fun id m l h=>by simp at h,fun i j l l' h=>by simp at h,⟨fun _ _ _ h=>h,fun D h=>by simp[allOf]at h⟩,fun _ _ _=>rfl⟩
theorem Ri {k:IntKind}{w:World}{a:Option Addr}{len cap:Nat}{zs:List Int} (h:IsRow k w a len cap zs) :
  ∃ l:List Int,(∀ n∈l,(Lit.int k n).wf=true)/\Rep (allOf w) [] (.sl false (l.map (AV.int k))) (.slice a len cap):=by
 rcases h with ⟨rfl,rfl,rfl,rfl⟩|⟨b,o,rfl,hl,hz,hc,hw⟩
 ·exact⟨[],fun _ h=>by simp at h,.nilsl false⟩
 ·refine⟨zs.take len,fun n hn=>hw n (List.mem_of_mem_take hn),?_⟩;have hlen:((zs.take len).map (AV.int k)).length=len:=by simp;omega
  have key:∀ i j x y,((zs.take len).map (AV.int k))[i]?=some x->x.cells[j]?=some y->i<zs.length/\j=0/\y=AV.int k (zs.getD i 0):=by
   intro i j x y h1 h2;rw[List.getElem?_map]at h1;cases hq:(zs.take len)[i]? with
   | none=>rw[hq]at h1;simp at h1
   | some n=>
     rw[hq]at h1;simp at h1;subst h1;rw[List.getElem?_take]at hq;split at hq
     ·have hiz:=(List.getElem?_eq_some_iff.1 hq).1
      match j,h2 with
      | 0,h2=>
        simp[AV.cells]at h2;exact⟨hiz,rfl,by rw[<- h2,List.getD_eq_getElem?_getD,hq];rfl⟩
      | j+1,h2=>simp[AV.cells]at h2
     ·cases hq
  have:=Rep.sl (I:=allOf w) (L:=[]) false ((zs.take len).map (AV.int k)) b o cap 1 (fun i _=>.int k (zs.getD i 0)) (by rw[hlen];exact hl) (fun h=>by cases h)
   (fun x hx=>by obtain⟨n,_,rfl⟩:=List.mem_map.1 hx;rfl)
   (fun i j x y h1 h2=>by
     obtain⟨k1,rfl,rfl⟩:=key i j x y h1 h2;refine⟨?_,rfl⟩;have:=hc i k1;unfold allOf;rw[show o+i*1+0=o+i by omega];exact this)
   (fun i j x y h1 h2=>by
     obtain⟨k1,rfl,rfl⟩:=key i j x y h1 h2;exact .int _ _)
  rw[hlen]at this;exact this
theorem walk (a0:Option Addr) (len0 cap0:Nat) (z0:List Int) (a1:Int) (a2:Bool) (w:World) (w0:IsRow .i64 w a0 len0 cap0 z0) (w1:(Lit.int .i64 a1).wf=true) (w2:True) :
  Calls Tryz.prog 3 #[.slice a0 len0 cap0,.int .i64 a1,.bool a2] w fun e w'=>e=.returned (.bool true)/\Below w.heap.size w w':=by
 obtain⟨l0,h0,r0⟩:=Ri w0;have hc:=ok1.1 3 _ _ _ _ (by decide) (QS l0 (fun n hn=>Md (h0 n hn)) a1 (Md w1) a2 []);refine(hc.2 w.heap.size ⟨w,allOf w,false⟩ w (allOf w) [] _ (base w) ⟨rfl,fun i y hy=>?_⟩).mono ?_
 ·match i,hy with
  | 0,hy=>simp at hy;subst hy;exact r0
  | 1,hy=>simp at hy;subst hy;exact .int _ _
  | 2,hy=>simp at hy;subst hy;exact .bool _
  | i+3,hy=>simp at hy
 ·rintro e w' ⟨v,I',L',rfl,hj,_,hv⟩;cases hv;exact⟨rfl,hj.below.toBelow⟩
set_option maxRecDepth 100000 in
theorem Rm (os:Os) (started:os.Started) (H:Type) (enc:TypeId×Value->H) :
  ReturnsInHanded {} Tryz.checked os 3 .any (Rows.derivAutoSpec.pre6 enc Tryz.prog Tryz.f3 Rows.derivAutoRow.domain false) (Rows.derivAutoSpec.post enc Tryz.prog Tryz.f3 false true false false):=by
 refine returnsInHanded_of_change (C:=Tryz.checked) own started (by kernel_rfl) Tryz.func3
  (ChangeSpec.witness6 (enc:=enc) (C:=Tryz.checked) false ⟨#[],#[.slice none 0 0,.int .i64 0,.bool false],[]⟩ 8 (by kernel_rfl) (by kernel_rfl) (by kernel_rfl) (by kernel_rfl)) ?_
 intro W base args ds gs before hval0 hW hcnd _;have hval:∀(j:Nat) t v,Tryz.f3.params[j]?=some t->args[j]?=some v->Value.okWide Tryz.prog W .any base t v:=hval0;have hW':=hW;obtain⟨p,q,hA0,hV,rfl,hfz,hnd⟩:=hW;have hA:DataW.TrodAll enc Tryz.prog W 0 (fun _=>true) true Tryz.f3.params.toList args.toList ds p:=hA0;rw[Tryz.params3]at hA hval;obtain⟨v0,vs0,d0,ds0,p0,q0,hargs,rfl,rfl,h0,r0⟩:=trodAll_cons hA;obtain⟨v1,vs1,d1,ds1,p1,q1,rfl,rfl,rfl,h1,r1⟩:=trodAll_cons r0;obtain⟨v2,vs2,d2,ds2,p2,q2,rfl,rfl,rfl,h2,r2⟩:=trodAll_cons r1;obtain⟨rfl,rfl,rfl⟩:=trodAll_nil r2;obtain rfl:args = #[v0,v1,v2]:=by cases args;simp_all
 obtain⟨rfl,rfl⟩:=trodVars_none hV;have hok0:=hval 0 22 v0 rfl rfl;obtain⟨a0,len0,cap0,rfl⟩:=okWide_slice Tryz.underlying22 hok0;have k0:=h0;have lt0:∀ x∈p0,x.block<W.heap.size:=by obtain⟨m,hm⟩:=k0;exact DataW.trod_lt m _ _ _ hm
 obtain⟨z0,w0⟩:∃ zs,IsRow .i64 W a0 len0 cap0 zs:=by
  obtain⟨fuel,hf⟩:=h0;rcases open_ints Tryz.underlying22 Tryz.underlying3 (by kernel_rfl) hf with ⟨hcs,_⟩|⟨x,l,c,zs,hcs,_,hl,hm,hz,_,hcell,hwz⟩
  ·simp[Value.cells]at hcs;obtain⟨rfl,rfl,rfl⟩:=hcs;exact⟨[],.inl ⟨rfl,rfl,rfl,rfl⟩⟩
  ·simp[Value.cells]at hcs;obtain⟨rfl,rfl,rfl⟩:=hcs;have hsp:x.spot=none:=by
    have h:=hok0;simp only[Value.okWide,Tryz.underlying22,Cell.okWide,Cell.ok,World.has]at h;exact h.2.2.2.1
   obtain⟨b,o,sp⟩:=x;simp only at hsp;subst hsp;refine⟨zs,.inr ⟨b,o,rfl,hl,by simpa using hz,fun i hi=>?_,hwz⟩⟩;have:=hcell i hi;unfold Addr.add at this;split at this
   ·rename_i h0;subst h0;simpa using this
   ·exact this
 obtain⟨a1,rfl,rfl,rfl,w1⟩:=open_int Tryz.underlying3 (hval 1 3 v1 rfl rfl) h1;obtain⟨a2,rfl,rfl,rfl⟩:=open_bool Tryz.underlying4 (hval 2 4 v2 rfl rfl) h2;have w2:True:=trivial;clear hA0 hval0;refine(walk a0 len0 cap0 z0 a1 a2 W w0 w1 w2).mono fun e W' ⟨he,bel⟩=>?_;subst he;exact⟨_,rfl,_,_,_,[],_,[],hW',trodAll_mk1 (shut_bool Tryz.underlying4 _),(trodAll_cons_mk (Below.trod laidOut (by kernel_rfl) (of_decide_eq_true (by kernel_rfl)) k0 bel lt0) (trodAll_cons_mk (shut_int Tryz.underlying3 w1) (trodAll_cons_mk (shut_bool Tryz.underlying4 a2) trodAll_mk0))),rfl,bel.frame _,fun h=>by cases h⟩
theorem over:Rows.derivAutoRow.holds Tryz.pinned (OpenSpec.ofChange Rows.derivAutoSpec):=
 OpenClaim.holds_of_wide 3 Tryz.f3 rfl rfl rfl rfl rfl rfl rfl ⟨rfl,rfl,rfl,rfl,rfl⟩ rfl rfl rfl rfl rfl (by kernel_rfl) Tryz.func3 (by kernel_rfl)
  (of_decide_eq_true (by kernel_rfl)) (by unfold Func.isWrapper;first|(rw[if_pos (by decide +kernel)];kernel_rfl)|(rw[if_neg (by decide +kernel)];exact⟨rfl,rfl⟩))
  (fun os started H enc _=>Rm os started H enc)
theorem derivAuto_holds:Rows.DerivAutoSaid:=over
#print axioms derivAuto_holds
end Go.Proofs.YtkolcijbdendhaaGreat
