/- sets.endsOf's comparison (138, 167), at ends that are not too great. -/
import Derived.Test.YtdklnlnbemogbaaGreatC11
import Derived.Test.YtdklnlnbemogbaaGreatC12
import Derived.Test.YtdklnlnbemogbaaGreatC13
import Derived.WalkKit
import Derived.BigCall
import Derived.BigGuard
import Derived.Handy
import Derived.Sort.AssemblyPlain
import Derived.Shelf.SlSortCmp.Insertion
set_option linter.unusedVariables false
set_option linter.unusedSimpArgs false
namespace Go.Ev
open Go.Proofs Go.RowKit Go.Sort
def Sml:El where
 α:={ p:Int×Int // 0≤p.1∧p.1<4294967296 }
 inh:=⟨⟨(0,0),by decide⟩⟩
 val a:=a.1
 mk? p:=if h:0≤p.1∧p.1<4294967296 then some ⟨p,h⟩ else none
 ok p a h:=by
  split at h
  ·simp at h;subst h;rfl
  ·cases h
def cfE (x y:Sml.α):Int:=(Sml.val x).1-(Sml.val y).1
set_option maxHeartbeats 1000000 in
theorem closure138 (x y:Sml.α) (W:World):Calls Tryz.prog 138 #[.agg (Sml.enc x).toArray,.agg (Sml.enc y).toArray] W fun e w'=>e=.returned (.int .i64 (cfE x y))∧∃ q os',w' = Sort.grow (W.drewN q) os':=by
 obtain⟨⟨a,b⟩,ha⟩:=x
 obtain⟨⟨c,d⟩,hc⟩:=y
 have hw:IntKind.i64.wrap (a-c)=a-c:=by simp at ha hc;simp[IntKind.wrap,IntKind.bits,IntKind.signed];omega
 show Calls Tryz.prog 138 #[.agg #[.int .i64 a,.int .i64 b],.agg #[.int .i64 c,.int .i64 d]] W fun e w'=>e=.returned (.int .i64 (a-c))∧∃ q os',w' = Sort.grow (W.drewN q) os'
 go_enter Tryz.func138,Tryz.ntmps138
 go_wp2
 go_ret
 refine⟨rfl,0,_,by rw[Sort.alloc_eq_grow,Sort.alloc_eq_grow,Sort.grow_grow];rfl⟩
set_option maxHeartbeats 1000000 in
theorem closure167 (x y:Sml.α) (W:World):Calls Tryz.prog 167 #[.agg (Sml.enc x).toArray,.agg (Sml.enc y).toArray] W fun e w'=>e=.returned (.int .i64 (cfE x y))∧∃ q os',w' = Sort.grow (W.drewN q) os':=by
 obtain⟨⟨a,b⟩,ha⟩:=x
 obtain⟨⟨c,d⟩,hc⟩:=y
 have hw:IntKind.i64.wrap (a-c)=a-c:=by simp at ha hc;simp[IntKind.wrap,IntKind.bits,IntKind.signed];omega
 show Calls Tryz.prog 167 #[.agg #[.int .i64 a,.int .i64 b],.agg #[.int .i64 c,.int .i64 d]] W fun e w'=>e=.returned (.int .i64 (a-c))∧∃ q os',w' = Sort.grow (W.drewN q) os'
 go_enter Tryz.func167,Tryz.ntmps167
 go_wp2
 go_ret
 refine⟨rfl,0,_,by rw[Sort.alloc_eq_grow,Sort.alloc_eq_grow,Sort.grow_grow];rfl⟩
theorem c180 (x:Int) (W:World):Calls Tryz.prog 180 #[.int .i64 x] W fun e w'=>e=.returned (.bool false)∧w' = W:=by
 go_enter Tryz.func180,Tryz.ntmps180
 go_wp2
 go_ret
 exact⟨by simp,rfl⟩
def cmpZ (a b:Int):Int:=if a<b then -1 else if b<a then 1 else 0
theorem c133 (x y:Int) (W:World):Calls Tryz.prog 133 #[.int .i64 x,.int .i64 y] W fun e w'=>e=.returned (.int .i64 (cmpZ x y))∧w' = W:=by
 go_enter Tryz.func133,Tryz.ntmps133
 go_wp2_with fail
 go_call (c180 x) as e w' ⟨he,hw⟩
 subst he;subst hw
 go_wp2_with fail
 go_call (c180 y) as e w' ⟨he,hw⟩
 subst he;subst hw
 go_wp2_with fail
 all_goals
  go_ret
  refine⟨?_,rfl⟩
  unfold cmpZ
  repeat' split
  all_goals first
   | rfl
   | omega
theorem c179 (x y:Int×Int×Int) (W:World):Calls Tryz.prog 179 #[.agg (enc3 x).toArray,.agg (enc3 y).toArray] W fun e w'=>e=.returned (.int .i64 (cmpZ x.1 y.1))∧∃ q os',w' = Sort.grow (W.drewN q) os':=by
 obtain⟨a,b,c⟩:=x
 obtain⟨a',b',c'⟩:=y
 show Calls Tryz.prog 179 #[.agg #[.int .i64 a,.int .i64 b,.int .i64 c],.agg #[.int .i64 a',.int .i64 b',.int .i64 c']] W fun e w'=>e=.returned (.int .i64 (cmpZ a a'))∧∃ q os',w' = Sort.grow (W.drewN q) os'
 go_enter Tryz.func179,Tryz.ntmps179
 go_wp2_with fail
 go_call (c133 a a') as e w' ⟨he,hw⟩
 subst he;subst hw
 go_wp2
 go_ret
 refine⟨rfl,0,_,by rw[Sort.alloc_eq_grow,Sort.alloc_eq_grow,Sort.grow_grow];rfl⟩
def Plc:El3 where
 α:=Int×Int×Int
 inh:=⟨(0,0,0)⟩
 val a:=a
 mk? p:=some p
 ok p a h:=by cases h;rfl
def cfP (x y:Plc.α):Int:=cmpZ (Plc.val x).1 (Plc.val y).1
theorem closure179 (x y:Plc.α) (W:World):Calls Tryz.prog 179 #[.agg (Plc.enc x).toArray,.agg (Plc.enc y).toArray] W fun e w'=>e=.returned (.int .i64 (cfP x y))∧∃ q os',w' = Sort.grow (W.drewN q) os':=c179 x y W
end Go.Ev
namespace Go.Ev
open Go.Proofs Go.Shelf Go.RowKit Go.Lib Go.Sort
theorem ltE (x y:Sml.α):ltOf cfE x y=decide ((Sml.val x).1<(Sml.val y).1):=by
 unfold ltOf cfE
 by_cases h:(Sml.val x).1<(Sml.val y).1
 ·simp[h];omega
 ·simp[h];omega
theorem swoE:SWO (ltOf cfE) where
 irrefl x:=by rw[ltE];simp
 trans x y z h1 h2:=by rw[ltE]at *;simp at *;omega
 ntrans x y z h1 h2:=by rw[ltE]at *;simp at *;omega
def srtE (d:Array Sml.α):Array Sml.α:=pdq (ltOf cfE) d 0 d.size (Lib.bitLen d.size) true true
theorem srtE_holds (d:Array Sml.α):PermIn 0 d.size d (srtE d)∧SortedIn (ltOf cfE) 0 d.size (srtE d):=
 pdq_sorts (ltOf cfE) swoE d 0 d.size (Lib.bitLen d.size) true true (Nat.zero_le _) (Nat.le_refl _) (Or.inl rfl)
theorem srtE_size (d:Array Sml.α):(srtE d).size=d.size:=(srtE_holds d).1.1
theorem ltP (x y:Plc.α):ltOf cfP x y=decide ((Plc.val x).1<(Plc.val y).1):=by
 unfold ltOf cfP cmpZ
 by_cases h:(Plc.val x).1<(Plc.val y).1
 ·simp[h]
 ·simp only[h,if_false,decide_false]
  split<;>simp
theorem swoP:SWO (ltOf cfP) where
 irrefl x:=by rw[ltP];simp
 trans x y z h1 h2:=by rw[ltP]at *;simp at *;omega
 ntrans x y z h1 h2:=by rw[ltP]at *;simp at *;omega
def srtP (d:Array Plc.α):Array Plc.α:=pdq (ltOf cfP) d 0 d.size (Lib.bitLen d.size) true true
theorem srtP_holds (d:Array Plc.α):PermIn 0 d.size d (srtP d)∧SortedIn (ltOf cfP) 0 d.size (srtP d):=
 pdq_sorts (ltOf cfP) swoP d 0 d.size (Lib.bitLen d.size) true true (Nat.zero_le _) (Nat.le_refl _) (Or.inl rfl)
theorem srtP_size (d:Array Plc.α):(srtP d).size=d.size:=(srtP_holds d).1.1
end Go.Ev
namespace Go.Ev
open Go.Sort
def Small (x:Int×Int):Prop:=0≤x.1∧x.1<4294967296
instance (x:Int×Int):Decidable (Small x):=inferInstanceAs (Decidable (_∧_))
end Go.Ev
