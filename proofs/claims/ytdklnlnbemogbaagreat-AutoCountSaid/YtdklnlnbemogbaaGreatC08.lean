/- slices.Clone: it asks whether the slice is nil, which the evaluator does not know. -/
import Derived.Test.YtdklnlnbemogbaaGreatC07
set_option linter.unusedVariables false
set_option linter.unusedSimpArgs false
namespace Go.Ev
open Go.RowKit
def cloneOps0 (T:TypeId) (p:String):Array Oper:=#[⟨some 2,.assign (.const (.slice none 0 0)),T,p,#[],none⟩]
def cloneOps1 (T B:TypeId) (p:String):Array Oper:=#[⟨some 3,.move (.tmp 0),T,p,#[],none⟩,⟨some 4,.binOp .eql T (.tmp 3) (.const (.slice none 0 0)) T,B,p,#[⟨0,.data⟩],none⟩]
def cloneOps3 (T:TypeId) (p:String):Array Oper:=#[⟨some 5,.buildSlice T 0 #[],T,p,#[],none⟩,⟨some 6,.move (.tmp 0),T,p,#[],none⟩,
 ⟨some 7,.call ⟨.builtin .append,#[.tmp 5,.tmp 6],#[T,T]⟩,T,p,#[⟨0,.data⟩,⟨1,.data⟩],none⟩,
 ⟨some 2,.assign (.tmp 7),T,p,#[⟨2,.data⟩,⟨2,.chain⟩,⟨0,.phase⟩,⟨1,.phase⟩,⟨2,.phase⟩],none⟩]
def cloneCode (T B:TypeId) (p0 p1 p2 p3:String):Code:=
 (Code.region 0 (cloneOps0 T p0) false).seq (((Code.region 1 (cloneOps1 T B p1) false).seq (Code.cond (.tmp 4) ((Code.region 2 (cloneOps0 T p2) false).seq Code.ret) Code.skip)).seq ((Code.region 3 (cloneOps3 T p3) false).seq Code.ret))
variable {P:Program}
theorem equalIn_sl (d:Nat) {T e:TypeId} (hu:P.underlying T=some (.slice e)) (a:Option Addr) (l c:Nat) (w:World) :
  (Op.equalIn (d+1) T (.slice a l c) (.slice none 0 0)).run P w=.ok a.isNone w:=by
 cases a<;>simp[Op.equalIn,run_underlying hu]
theorem keptOk_self (n:Nat) (K:List MB):∀ H:List MB,keptOk n H (H++K)=true
 | []=>by cases K<;>rfl
 | x::H=>by simp[keptOk,MB.beq_refl,keptOk_self n K H]
def cloneExt (k by_:Nat) (a:List AV) (H:List MB):Option (AV×List MB):=
 match a with
 | [x]=>match elemsOf H x with
   | some xs=>if(xs.all fun y=>decide (y.cells.length=k)&&y.cells.all AV.ok)=true∧roomFor xs.length by_=true∧AV.plainL xs=true then
      (match H,xs with
      | [],y::ys=>some (.ms 0 k (ys.length+1) 0 (ys.length+1),[.row k (y::ys) 0])
      | _,_=>some (.sl false xs,H)) else none
   | none=>none
 | _=>none
def polC:Pol:={ byref:=fun _ _=>false,keep:=fun _=>false,own:=fun _=>false,mask:=fun _ _=>none,dead:=fun _ _=>[],bdead:=fun _ _=>[],gc:=fun _ _=>none,muts:=fun _=>[],pure:=fun _=>false,ext:=fun _=>none,acts:=fun _ _=>[],racts:=fun _ _=>[],alts:=fun _ _=>none }
theorem ret_nil (f:Nat) (H:List MB):retPol polC f H (.sl true []) H=some (.sl false [],H):=by
 have h1:fz (.sl true []) H=some (.sl false [],H):=rfl
 have h2:=keptOk_self H.length [] H
 rw[List.append_nil]at h2
 unfold retPol
 simp only[polC,Bool.false_eq_true,if_false,h1,AV.under,AV.underL,h2,and_self,if_true,List.take_length]
theorem ret_row (f k n:Nat) (H:List MB) (xs:List AV) (hn:n=xs.length) (hp:AV.plainL xs=true):retPol polC f H (.ms H.length k n 0 n) (H++[.row k xs 0])=some (.sl false xs,H):=by
 subst hn
 have hr:getRow (H++[.row k xs 0]) H.length=some (k,xs,0):=by simp[getRow]
 have hm:mark (H++[.row k xs 0]) H.length (0+xs.length)=H++[.row k xs (max 0 (0+xs.length))]:=by
  unfold mark
  rw[hr]
  simp
 have h1:fz (.ms H.length k xs.length 0 xs.length) (H++[.row k xs 0])=some (.sl false xs,H++[.row k xs (max 0 (0+xs.length))]):=by
  unfold fz
  refine fzA_ms hr rfl (by omega) ?_
  rw[List.drop_zero,List.take_length,hm]
  exact fzL_plain _ _ _ hp
 have h2:=keptOk_self H.length [.row k xs (max 0 (0+xs.length))] H
 unfold retPol
 simp only[polC,Bool.false_eq_true,if_false,h1,AV.under,underL_plain H.length xs hp,h2,and_self,if_true]
 simp
variable {B0:Nat}{w0:Base}{w:World}{I:Imm}{L:List Lay}
theorem cf0_ok:CfOk P (fun _ _ _=>none):=⟨fun _ _ _ _ _ _ h=>(by cases h),fun _ _ _ _ h=>(by cases h)⟩
theorem wpList_go {ops:Array Oper}{Q:Exit→Act→World→Prop}{o:Oper}{rest:List Oper}{a:Act}{w:World} (hg:o.guard=none) (h:o.wpIn (wd none) 0 P a w (wpL none P ops Q rest) Q):wpL none P ops Q (o::rest) a w:=by
 unfold wpL
 rw[if_pos (by simp[Region.wanted,hg])]
 exact h
theorem ret_own (f k:Nat) (y:AV) (ys:List AV) (hp:AV.plainL (y::ys)=true) :
  retPol { polC with own:=fun _=>true } f [] (.ms 0 k (ys.length+1) 0 (ys.length+1)) [.row k (y::ys) 0]=some (.ms 0 k (ys.length+1) 0 (ys.length+1),[.row k (y::ys) 0]):=by
 have h1:fzs (y::ys) [.row k (y::ys) 0]=some (y::ys,[.row k (y::ys) 0]):=fzL_plain _ _ _ hp
 have h2:=underL_plain 0 (y::ys) hp
 have h3:∀ K,keptOk 0 [] K=true:=fun K=>by cases K<;>rfl
 unfold retPol
 simp only[polC,Bool.false_eq_true,if_false,if_true,getRow,List.getElem?_cons_zero,List.length_nil,Nat.le_refl,List.length_cons,Nat.zero_add,and_self,List.drop_zero]
 rw[List.take_of_length_le (by simp)]
 simp only[h1,h2,h3,List.length_cons,Nat.zero_le,and_self,if_true,Nat.sub_self]
 simp
theorem clone_core (pol:Pol) {f:Nat}{fn:Func}{T B e k by_:Nat}{p0 p1 p2 p3:String}{ze:AV} (hf:P.funcs[f]?=some fn) (hc:fn.body=some (cloneCode T B p0 p1 p2 p3))
  (hn:(fn.name == "runtime.NumGoroutine")=false) (hnt:fn.ntmps=8) (hres:fn.results.toList=[.tmp 2]) (hu:P.underlying T=some (.slice e)) (hs:tySz P e=some k) (hk:0<k)
  (hby:tyBytes P e=some by_) (hz:tyZero P e=some ze) (hzl:ze.cells.length=k) (hzo:ze.cells.all AV.ok=true) {x:AV}{H H':List MB}{r:AV}{xs:List AV} (hxs:elemsOf H x=some xs)
  (c1:(xs.all fun y=>decide (y.cells.length=k)&&y.cells.all AV.ok)=true) (c2:roomFor xs.length by_=true)
  (hA:xs=[]→retPol pol f H (.sl true []) H=some (r,H')) (hB:∀ y ys,xs=y::ys→retPol pol f H (.ms H.length k (ys.length+1) 0 (ys.length+1)) (H++[.row k (y::ys) 0])=some (r,H')):CallSound P f [x] H r H':=by
 refine⟨fun us w=>?_,fun B0 w0 w I L us hi hus=>?_⟩
 ·unfold callFunc
  simp only[Sem.run_bind,run_program,Result.andThen_ok,hf]
  rw[if_neg (by simpa using hn),if_neg (by simp[hc])]
  rfl
 ·have hlen:us.size=1:=hus.1
  refine calls_of_wp hf hc ?_
  have hs0:StOk B0 ⟨w0.w,w0.I,true⟩ I L ⟨8,[(0,x)],H⟩ { tmps:=us++Array.replicate (fn.ntmps-us.size) undef,defers:=[] } w:=by
   refine⟨I,L,hi.fx true,.refl I L,.nil,by simp[hlen,hnt],List.pairwise_singleton _ _,fun q hq=>?_⟩
   rw[List.mem_singleton.1 hq]
   refine⟨by simp,?_⟩
   have h0:=hus.2 0 x rfl
   have e1:(us++Array.replicate (fn.ntmps-us.size) undef).getD 0 undef=us.getD 0 undef:=by
    have hlt2:0<us.size:=by omega
    simp only[Array.getD_eq_getD_getElem?,Array.getElem?_append_left hlt2]
   rw[e1];exact h0
  have fin:∀ {v:AV}{K:List MB}{s':St}{a':Act}{w':World},StOk B0 ⟨w0.w,w0.I,true⟩ I L s' a' w'→look s'.t 2=some v→s'.h=K→retPol pol f H v K=some (r,H') →
    bodyPost P fn (fun e w'=>∃ v I' L',e=.returned v∧Inv B0 w0 I' H' L' w'∧Ext I L I' L'∧Rep I' L' r v) .ret a' w':=by
   rintro v K s' a' w' hst hv rfl hret
   have b3:=hst.defers rfl
   obtain⟨I2,L2,b1,b2,_,b4⟩:=hst
   obtain⟨u,g1,g2⟩:=results_sound (fn:=fn) (P:=P) (vs:=[v]) b1 b4 (by rw[hres];simp only[evResults,evResult,hv])
   obtain⟨I3,L3,d1,d2,d3⟩:=retPol_sound (pol:=pol) hi b1.unfx b2 g2 hret
   exact⟨b3,u,g1,u,I3,L3,rfl,d1,d2,d3⟩
  refine wp_seq ?_
  refine wp_region_L (evOps_sound none (mu:=[]) cf0_ok _ (s':=⟨8,[(2,.sl true []),(0,x)],H⟩) (by rfl) hs0 (fun a1 w1 hs1=>?_))
  refine wp_seq ?_
  refine wp_seq ?_
  refine wp_region_L ?_
  have hnil:∀(a2:Act) (w2:World),StOk B0 ⟨w0.w,w0.I,true⟩ I L ⟨8,[(3,x),(2,.sl true []),(0,x)],H⟩ a2 w2 →
    ∃ b,(execOp a2.eval (⟨some 4,.binOp .eql T (.tmp 3) (.const (.slice none 0 0)) T,B,p1,#[⟨0,.data⟩],none⟩:Oper)).run P w2=.ok (.value (.bool b)) w2∧(b=true→xs=[]):=by
   rintro a2 w2 ⟨I2,L2,b1,b2,b3,b4⟩
   have hr:Rep I2 L2 x (a2.eval (.tmp 3)):=b4.at (d:=3) rfl
   generalize hvv:a2.eval (.tmp 3)=v at hr
   have hv:∃ a l c,v=.slice a l c∧(a.isNone=true→xs=[]):=by
    unfold elemsOf at hxs
    split at hxs
    ·simp at hxs;subst hxs
     cases hr with
     | nilsl t=>exact⟨none,0,0,rfl,fun _=>rfl⟩
     | sl t xs b o c k f hc ht hk hI hR=>exact⟨_,_,_,rfl,fun h=>by simp at h⟩
    ·cases hr with
     | ms _ _ _ _ _ l b o c hL ht hk hl hc hv=>exact⟨_,_,_,rfl,fun h=>by simp at h⟩
     | msn=>exact⟨_,_,_,rfl,fun _=>by split at hxs<;>(try (split at hxs))<;>simp at hxs<;>exact hxs⟩
    ·simp at hxs
   obtain⟨a,l,c,rfl,hvn⟩:=hv
   refine⟨a.isNone,?_,hvn⟩
   have he:(Op.equal T (.slice a l c) (.slice none 0 0)).run P w2=.ok a.isNone w2:=equalIn_sl 9999 hu a l c w2
   have hq:=(EqRun.of (P:=P) (T:=T) (ox:=.tmp 3) (oy:=.const (.slice none 0 0)) (a:=.slice a l c) (b:=.slice none 0 0) (r:=a.isNone) (w:=w2) rfl rfl rfl rfl he).1
   have hcon:a2.eval (.const (.slice none 0 0))=.slice none 0 0:=rfl
   simp only[execOp,hvv,hcon]
   simp only[Sem.run_bind,Sem.run_pure]at hq ⊢
   rw[hq]
   rfl
  have hop0:∀ {Q:Exit→Act→World→Prop}{K:Act→World→Prop},(∀ a' w',StOk B0 ⟨w0.w,w0.I,true⟩ I L ⟨8,[(3,x),(2,.sl true []),(0,x)],H⟩ a' w'→K a' w') →
    (⟨some 3,.move (.tmp 0),T,p1,#[],none⟩:Oper).wpIn (wd none) 0 P a1 w1 K Q:=fun {Q K} hK=>by
   have:=evOne_sound none (P:=P) (Q:=Q) (mu:=[]) (cf:=fun _ _ _=>none) (ops:=cloneOps1 T B p1) (o:=⟨some 3,.move (.tmp 0),T,p1,#[],none⟩) cf0_ok (by rfl) hs1 hK
   rw[if_pos (by simp[Region.wanted])]at this
   exact this
  refine wpList_go (o:=⟨some 3,.move (.tmp 0),T,p1,#[],none⟩) (rest:=[⟨some 4,.binOp .eql T (.tmp 3) (.const (.slice none 0 0)) T,B,p1,#[⟨0,.data⟩],none⟩]) rfl (hop0 (fun a2 w2 hs2=>?_))
  obtain⟨b,hb1,hb2⟩:=hnil a2 w2 hs2
  refine wpList_go rfl ?_
  refine⟨wd_about,?_⟩
  show Oper.uponIn (wd none) 0 P _ a2 _ _ ((execOp a2.eval (⟨some 4,.binOp .eql T (.tmp 3) (.const (.slice none 0 0)) T,B,p1,#[⟨0,.data⟩],none⟩:Oper)).run P w2)
  rw[hb1]
  have hs3:StOk B0 ⟨w0.w,w0.I,true⟩ I L ⟨8,[(4,.bool b),(3,x),(2,.sl true []),(0,x)],H⟩ (a2.put (some 4) (.bool b)) w2:=by
   obtain⟨I2,L2,b1,b2,b3,b4⟩:=hs2
   exact⟨I2,L2,b1,b2,by rw[put_defers];exact b3,put_rep b4 (some 4) (.bool b) H⟩
  show (Code.cond (.tmp 4) ((Code.region 2 (cloneOps0 T p2) false).seq Code.ret) Code.skip).wp P _ (a2.put (some 4) (.bool b)) w2
  generalize a2.put (some 4) (.bool b)=a3 at hs3 ⊢
  have he4:a3.eval (.tmp 4)=.bool b:=by
   obtain⟨I2,L2,b1,b2,b3,b4⟩:=hs3
   have hr:Rep I2 L2 (.bool b) (a3.eval (.tmp 4)):=b4.at (d:=4) rfl
   generalize a3.eval (.tmp 4)=v at hr
   cases hr
   rfl
  cases b with
  | true=>
    refine wp_cond_true he4 ?_
    refine wp_seq ?_
    refine wp_region_L (evOps_sound none (mu:=[]) cf0_ok _ (s':=⟨8,[(4,.bool true),(3,x),(2,.sl true []),(0,x)],H⟩) (by rfl) hs3 (fun a4 w4 hs4=>?_))
    refine wp_ret ?_
    have hx0:=hb2 rfl
    refine fin hs4 (v:=.sl true []) rfl rfl ?_
    exact hA hx0
  | false=>
    refine wp_cond_false he4 ?_
    refine wp_skip ?_
    refine wp_seq ?_
    have hsrc:srcElems P H e x=some xs:=by
     unfold srcElems
     cases x<;>first|exact hxs|(simp[elemsOf]at hxs)
    have he1:tyElem P T=some e:=by simp[tyElem,hu]
    have he2:tyNotInt P T=true:=by simp[tyNotInt,hu]
    obtain⟨v,K,hap,hret⟩:∃ v K,evAppend P H T T (.sl true []) x=some (v,K)∧retPol pol f H v K=some (r,H'):=by
     unfold evAppend
     simp only[he1,he2,hs,hby,hz,hsrc]
     rw[if_pos ⟨c1,hk,hzl⟩]
     cases xs with
     | nil=>exact⟨_,_,rfl,hA rfl⟩
     | cons y ys=>
       refine⟨.ms H.length k (ys.length+1) 0 (ys.length+1),H++[.row k (y::ys) 0],?_,hB y ys rfl⟩
       simp only[List.length_nil,Nat.zero_add,List.length_cons]at c2 ⊢
       simp[c2]
    have hbs:evBuildSlice P T 0 []=some []:=by
     unfold evBuildSlice
     simp[he1,hs,hz,hzl,hk,hzo,fillE]
    have hev:evOps P (fun _ _ _=>none) [] (cloneOps3 T p3).toList (cloneOps3 T p3).toList ⟨8,[(4,.bool false),(3,x),(2,.sl true []),(0,x)],H⟩ =
      some ⟨8,[(7,v),(6,x),(5,.sl true []),(4,.bool false),(3,x),(2,v),(0,x)],K⟩:=by
     simp[cloneOps3,evOps,evOne,evWanted,evOp,hbs,mutDst,St.put,St.ev,ins,lookD,look,evBuiltin,he2,hap]
    refine wp_region_L (evOps_sound none (mu:=[]) cf0_ok _ hev hs3 (fun a4 w4 hs4=>?_))
    refine wp_ret ?_
    exact fin hs4 (v:=v) rfl rfl hret
theorem clone_sound {f:Nat}{fn:Func}{T B e k by_:Nat}{p0 p1 p2 p3:String}{ze:AV} (hf:P.funcs[f]?=some fn) (hc:fn.body=some (cloneCode T B p0 p1 p2 p3))
  (hn:(fn.name == "runtime.NumGoroutine")=false) (hnt:fn.ntmps=8) (hres:fn.results.toList=[.tmp 2]) (hu:P.underlying T=some (.slice e)) (hs:tySz P e=some k) (hk:0<k)
  (hby:tyBytes P e=some by_) (hz:tyZero P e=some ze) (hzl:ze.cells.length=k) (hzo:ze.cells.all AV.ok=true) {args:List AV}{H H':List MB}{r:AV} (h:cloneExt k by_ args H=some (r,H')):CallSound P f args H r H':=by
 unfold cloneExt at h
 split at h
 ·rename_i x
  split at h
  ·rename_i xs hxs
   split at h
   ·rename_i hcond
    obtain⟨c1,c2,c3⟩:=hcond
    split at h
    ·rename_i _ _ y ys
     simp at h;obtain⟨rfl,rfl⟩:=h
     refine clone_core { polC with own:=fun _=>true } hf hc hn hnt hres hu hs hk hby hz hzl hzo hxs c1 c2 (fun h=>by cases h) (fun y' ys' h=>?_)
     simp at h;obtain⟨rfl,rfl⟩:=h
     exact ret_own f k _ _ c3
    ·simp at h;obtain⟨rfl,rfl⟩:=h
     refine clone_core polC hf hc hn hnt hres hu hs hk hby hz hzl hzo hxs c1 c2 (fun h=>?_) (fun y' ys' h=>?_)
     ·rw[h];exact ret_nil f _
     ·rw[h];exact ret_row f k _ _ (y'::ys') rfl (by rw[← h];exact c3)
   ·simp at h
  ·simp at h
 ·simp at h
end Go.Ev
