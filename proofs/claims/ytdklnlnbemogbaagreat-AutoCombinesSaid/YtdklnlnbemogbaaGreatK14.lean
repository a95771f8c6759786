/- sets.endsOf's comparison (138, 167), at ends that are not too great. -/
import Derived.Test.YtdklnlnbemogbaaGreatK12
import Derived.Test.YtdklnlnbemogbaaGreatK13
import Derived.BigCall
import Derived.BigGuard
import Derived.Handy
import Derived.Sort.AssemblyPlain
import Derived.Shelf.SlSortCmp.Insertion
set_option linter.unusedVariables false
set_option linter.unusedSimpArgs false
namespace Go.Ev
open Go.Proofs Go.RowKit Go.Sort
def Sml:El where
 α:={ p:Int×Int // 0<=p.1/\p.1<4294967296 }
 inh:=⟨⟨(0,0),by decide⟩⟩
 val a:=a.1
 mk? p:=if h:0<=p.1/\p.1<4294967296 then some ⟨p,h⟩ else none
 ok p a h:=by
  split at h
  ·simp at h;subst h;rfl
  ·cases h
def cfE (x y:Sml.α):Int:=(Sml.val x).1-(Sml.val y).1
set_option maxHeartbeats 1000000 in
theorem N0 (x y:Sml.α) (W:World):Calls Tryz.prog 138 #[.agg (Sml.enc x).toArray,.agg (Sml.enc y).toArray] W fun e w'=>e=.returned (.int .i64 (cfE x y))/\∃ q os',w' = Sort.grow (W.drewN q) os':=by
 obtain⟨⟨a,b⟩,ha⟩:=x;obtain⟨⟨c,d⟩,hc⟩:=y;have hw:IntKind.i64.wrap (a-c)=a-c:=by simp at ha hc;simp[IntKind.wrap,IntKind.bits,IntKind.signed];omega
 show Calls Tryz.prog 138 #[.agg #[.int .i64 a,.int .i64 b],.agg #[.int .i64 c,.int .i64 d]] W fun e w'=>e=.returned (.int .i64 (a-c))/\∃ q os',w' = Sort.grow (W.drewN q) os'
 go_enter Tryz.func138,Tryz.ntmps138
 go_wp2
 go_ret
 refine⟨rfl,0,_,by rw[Sort.alloc_eq_grow,Sort.alloc_eq_grow,Sort.grow_grow];rfl⟩
set_option maxHeartbeats 1000000 in
theorem Nz (x y:Sml.α) (W:World):Calls Tryz.prog 167 #[.agg (Sml.enc x).toArray,.agg (Sml.enc y).toArray] W fun e w'=>e=.returned (.int .i64 (cfE x y))/\∃ q os',w' = Sort.grow (W.drewN q) os':=by
 obtain⟨⟨a,b⟩,ha⟩:=x;obtain⟨⟨c,d⟩,hc⟩:=y;have hw:IntKind.i64.wrap (a-c)=a-c:=by simp at ha hc;simp[IntKind.wrap,IntKind.bits,IntKind.signed];omega
 show Calls Tryz.prog 167 #[.agg #[.int .i64 a,.int .i64 b],.agg #[.int .i64 c,.int .i64 d]] W fun e w'=>e=.returned (.int .i64 (a-c))/\∃ q os',w' = Sort.grow (W.drewN q) os'
 go_enter Tryz.func167,Tryz.ntmps167
 go_wp2
 go_ret
 refine⟨rfl,0,_,by rw[Sort.alloc_eq_grow,Sort.alloc_eq_grow,Sort.grow_grow];rfl⟩
theorem c180 (x:Int) (W:World):Calls Tryz.prog 180 #[.int .i64 x] W fun e w'=>e=.returned (.bool false)/\w' = W:=by
 go_enter Tryz.func180,Tryz.ntmps180
 go_wp2
 go_ret
 exact⟨by simp,rfl⟩
def cmpZ (a b:Int):Int:=if a<b then -1 else if b<a then 1 else 0
theorem c133 (x y:Int) (W:World):Calls Tryz.prog 133 #[.int .i64 x,.int .i64 y] W fun e w'=>e=.returned (.int .i64 (cmpZ x y))/\w' = W:=by
 go_enter Tryz.func133,Tryz.ntmps133
 go_wp2_with fail
 go_call (c180 x) as e w' ⟨he,hw⟩
 subst he;subst hw
 go_wp2_with fail
 go_call (c180 y) as e w' ⟨he,hw⟩
 subst he;subst hw
 go_wp2_with fail
 all_goals
  go_ret
  refine⟨?_,rfl⟩;unfold cmpZ;repeat' split
  all_goals first
   | rfl
   | omega
theorem c179 (x y:Int×Int×Int) (W:World):Calls Tryz.prog 179 #[.agg (enc3 x).toArray,.agg (enc3 y).toArray] W fun e w'=>e=.returned (.int .i64 (cmpZ x.1 y.1))/\∃ q os',w' = Sort.grow (W.drewN q) os':=by
 obtain⟨a,b,c⟩:=x;obtain⟨a',b',c'⟩:=y;show Calls Tryz.prog 179 #[.agg #[.int .i64 a,.int .i64 b,.int .i64 c],.agg #[.int .i64 a',.int .i64 b',.int .i64 c']] W fun e w'=>e=.returned (.int .i64 (cmpZ a a'))/\∃ q os',w' = Sort.grow (W.drewN q) os'
 go_enter Tryz.func179,Tryz.ntmps179
 go_wp2_with fail
 go_call (c133 a a') as e w' ⟨he,hw⟩
 subst he;subst hw
 go_wp2
 go_ret
 refine⟨rfl,0,_,by rw[Sort.alloc_eq_grow,Sort.alloc_eq_grow,Sort.grow_grow];rfl⟩
def Plc:El3 where
 α:=Int×Int×Int
 inh:=⟨(0,0,0)⟩
 val a:=a
 mk? p:=some p
 ok p a h:=by cases h;rfl
def cfP (x y:Plc.α):Int:=cmpZ (Plc.val x).1 (Plc.val y).1
theorem Ny (x y:Plc.α) (W:World):Calls Tryz.prog 179 #[.agg (Plc.enc x).toArray,.agg (Plc.enc y).toArray] W fun e w'=>e=.returned (.int .i64 (cfP x y))/\∃ q os',w' = Sort.grow (W.drewN q) os':=c179 x y W
end Go.Ev
namespace Go.Ev
open Go.Proofs Go.Shelf Go.RowKit Go.Lib Go.Sort
theorem ltE (x y:Sml.α):ltOf cfE x y=decide ((Sml.val x).1<(Sml.val y).1):=by
 unfold ltOf cfE;by_cases h:(Sml.val x).1<(Sml.val y).1
 ·simp[h];omega
 ·simp[h];omega
theorem swoE:SWO (ltOf cfE) where
 irrefl x:=by rw[ltE];simp
 trans x y z h1 h2:=by rw[ltE]at *;simp at *;omega
 ntrans x y z h1 h2:=by rw[ltE]at *;simp at *;omega
def srtE (d:Array Sml.α):Array Sml.α:=pdq (ltOf cfE) d 0 d.size (Lib.bitLen d.size) true true
theorem srtE_holds (d:Array Sml.α):PermIn 0 d.size d (srtE d)/\SortedIn (ltOf cfE) 0 d.size (srtE d):=
 pdq_sorts (ltOf cfE) swoE d 0 d.size (Lib.bitLen d.size) true true (Nat.zero_le _) (Nat.le_refl _) (Or.inl rfl)
theorem GK (d:Array Sml.α):(srtE d).size=d.size:=(srtE_holds d).1.1
theorem ltP (x y:Plc.α):ltOf cfP x y=decide ((Plc.val x).1<(Plc.val y).1):=by
 unfold ltOf cfP cmpZ;by_cases h:(Plc.val x).1<(Plc.val y).1
 ·simp[h]
 ·simp only[h,if_false,decide_false];split<;>simp
theorem swoP:SWO (ltOf cfP) where
 irrefl x:=by rw[ltP];simp
 trans x y z h1 h2:=by rw[ltP]at *;simp at *;omega
 ntrans x y z h1 h2:=by rw[ltP]at *;simp at *;omega
def srtP (d:Array Plc.α):Array Plc.α:=pdq (ltOf cfP) d 0 d.size (Lib.bitLen d.size) true true
theorem srtP_holds (d:Array Plc.α):PermIn 0 d.size d (srtP d)/\SortedIn (ltOf cfP) 0 d.size (srtP d):=
 pdq_sorts (ltOf cfP) swoP d 0 d.size (Lib.bitLen d.size) true true (Nat.zero_le _) (Nat.le_refl _) (Or.inl rfl)
theorem Jl (d:Array Plc.α):(srtP d).size=d.size:=(srtP_holds d).1.1
end Go.Ev
namespace Go.Ev
open Go.Sort
def Small (x:Int×Int):Prop:=0<=x.1/\x.1<4294967296
instance (x:Int×Int):Decidable (Small x):=inferInstanceAs (Decidable (_/\_))
def smlL (xs:List (Int×Int)):List Sml.α:=xs.filterMap Sml.mk?
def sortE (xs:List (Int×Int)):List (Int×Int):=(srtE (smlL xs).toArray).toList.map Sml.val
theorem Fm:∀ {xs:List (Int×Int)},(∀ x∈xs,Small x)->(smlL xs).map Sml.val=xs
 | [],_=>rfl
 | x::xs,h=>by
   have h1:=h x (by simp);have e:Sml.mk? x=some (⟨x,h1⟩:{ p:Int×Int // 0<=p.1/\p.1<4294967296 }):=dif_pos h1;have ih:=Fm (xs:=xs) (fun y hy=>h y (List.mem_cons_of_mem x hy));unfold smlL at ih |-;rw[List.filterMap_cons_some e];exact congrArg (x::·) ih
theorem GN:∀ {xs:List (Int×Int)},(∀ x∈xs,Small x)->xs.mapM Sml.mk?=some (smlL xs)
 | [],_=>rfl
 | x::xs,h=>by
   have h1:=h x (by simp);have e:Sml.mk? x=some (⟨x,h1⟩:{ p:Int×Int // 0<=p.1/\p.1<4294967296 }):=dif_pos h1;have ih:=GN (xs:=xs) (fun y hy=>h y (List.mem_cons_of_mem x hy));rw[List.mapM_cons,e,ih];unfold smlL;rw[List.filterMap_cons_some e];rfl
theorem Dt {xs:List (Int×Int)} (h:∀ x∈xs,Small x):(sortE xs).Perm xs:=by
 obtain⟨h1,_,h3⟩:=(srtE_holds (smlL xs).toArray).1;have e1:(srtE (smlL xs).toArray).extract 0 (smlL xs).toArray.size=srtE (smlL xs).toArray:=by rw[<- h1];exact Array.extract_size
 rw[e1,Array.extract_size]at h3;have:=h3.map Sml.val;rw[show ((smlL xs).toArray.toList)=smlL xs from rfl,Fm h]at this;exact this
theorem Ds (xs:List (Int×Int)):(sortE xs).Pairwise (fun a b=>a.1<=b.1):=by
 have h2:=(srtE_holds (smlL xs).toArray).2;have hs:=GK (smlL xs).toArray;unfold sortE;rw[List.pairwise_map,List.pairwise_iff_getElem];intro i j hi hj hij;have hi':i<(srtE (smlL xs).toArray).size:=by simpa using hi
 have hj':j<(srtE (smlL xs).toArray).size:=by simpa using hj
 have h3:=h2 i j (Nat.zero_le _) hij (by rw[<- hs];exact hj');rw[ltE,getElem!_pos _ i hi',getElem!_pos _ j hj']at h3;simp at h3
 simpa using h3
theorem Du {xs:List (Int×Int)} (h:∀ x∈xs,Small x):(sortE xs).length=xs.length:=(Dt h).length_eq
theorem NG {g:Nat}{xs:List (Int×Int)} (h:∀ x∈xs,Small x) {n:Nat} (hn:xs.length=n) (hl:n<=4000000000) {H:List MB}{id:Nat} (hr:getRow H id=some (2,xs.map el2,0)) :
  ∃ H',sort2Ext Sml g srtE [.ms id 2 n 0 n,.clo g []] H=some (.tup [],H')/\getRow H' id=some (2,(sortE xs).map el2,0):=by
 subst hn;have hlt:id<H.length:=by
  unfold getRow at hr;rcases Nat.lt_or_ge id H.length with h1|h1
  ·exact h1
  ·rw[List.getElem?_eq_none h1]at hr;cases hr
 by_cases h0:xs.length=0
 ·have hx:xs=[]:=List.length_eq_zero_iff.1 h0;subst hx;refine⟨H,?_,?_⟩
  ·simp only[sort2Ext];simp
  ·rw[hr];have:sortE []=[]:=List.length_eq_zero_iff.1 (Du (xs:=[]) h);rw[this]
 ·have hu:=Sml.unL_map xs (smlL xs) (GN h);have hlen:(smlL xs).length=xs.length:=by have:=congrArg List.length (Fm h);simpa using this
  refine⟨H.set id (.row 2 ((sortE xs).map el2) 0),?_,?_⟩
  ·simp only[sort2Ext];rw[if_neg (by rintro⟨h,_⟩;exact h0 h)];simp only[hr,hu];rw[if_pos ⟨trivial,hlen.symm,hlen.symm,by omega,by omega⟩];unfold sortE;rw[List.map_map];rfl
  ·unfold getRow;rw[List.getElem?_set_self hlt]
end Go.Ev
