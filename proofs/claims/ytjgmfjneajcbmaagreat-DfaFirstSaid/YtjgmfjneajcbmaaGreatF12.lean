/- The contract of slices.SortFunc, laid at this program (printed by lay-plain.mjs). -/
import Derived.Test.YtjgmfjneajcbmaaGreatF11
import Derived.Shelf.SlLaysF0
import Derived.Test.YtjgmfjneajcbmaaGreatProg
import Derived.BigCall
import Derived.BigGuard
import Derived.Sort.AssemblyPlain
import Derived.Shelf.SlSortCmp.Insertion
set_option linter.unusedVariables false
set_option linter.unusedSimpArgs false
namespace Go.Proofs
open Go.Shelf
def Tryz.sortL_ren:Go.Shelf.Ren:=⟨fun|6=>102|15=>138|14=>137|28=>162|29=>163|20=>154|21=>155|22=>156|23=>157|24=>158|25=>159|26=>160|27=>161|46=>168|47=>169|48=>170|49=>171|50=>172|57=>173|n=>n,fun|22=>129|24=>135|25=>194|3=>3|39=>140|0=>0|53=>235|55=>131|4=>4|46=>229|45=>228|50=>136|5=>5|9=>9|66=>237|70=>241|76=>243|77=>67|n=>n,fun|n=>n⟩
theorem Tryz.sortL:Go.Proofs.SlLaysF0.n6 Tryz.prog Tryz.sortL_ren:={
 mixed:=by kernel_rfl
 f6:=⟨Tryz.f102.name,by decide,Tryz.func102.trans (congrArg some (by kernel_rfl))⟩
 f14:=⟨Tryz.f137.name,by decide,Tryz.func137.trans (congrArg some (by kernel_rfl))⟩
 f15:=Tryz.func138.trans (congrArg some (by kernel_rfl))
 f20:=⟨Tryz.f154.name,by decide,Tryz.func154.trans (congrArg some (by kernel_rfl))⟩
 f21:=⟨Tryz.f155.name,by decide,Tryz.func155.trans (congrArg some (by kernel_rfl))⟩
 f22:=⟨Tryz.f156.name,by decide,Tryz.func156.trans (congrArg some (by kernel_rfl))⟩
 f23:=⟨Tryz.f157.name,by decide,Tryz.func157.trans (congrArg some (by kernel_rfl))⟩
 f24:=⟨Tryz.f158.name,by decide,Tryz.func158.trans (congrArg some (by kernel_rfl))⟩
 f25:=⟨Tryz.f159.name,by decide,Tryz.func159.trans (congrArg some (by kernel_rfl))⟩
 f26:=⟨Tryz.f160.name,by decide,Tryz.func160.trans (congrArg some (by kernel_rfl))⟩
 f27:=⟨Tryz.f161.name,by decide,Tryz.func161.trans (congrArg some (by kernel_rfl))⟩
 f28:=Tryz.func162.trans (congrArg some (by kernel_rfl))
 f29:=Tryz.func163.trans (congrArg some (by kernel_rfl))
 f46:=⟨Tryz.f168.name,by decide,Tryz.func168.trans (congrArg some (by kernel_rfl))⟩
 f47:=Tryz.func169.trans (congrArg some (by kernel_rfl))
 f48:=Tryz.func170.trans (congrArg some (by kernel_rfl))
 f49:=⟨Tryz.f171.name,by decide,Tryz.func171.trans (congrArg some (by kernel_rfl))⟩
 f50:=⟨Tryz.f172.name,by decide,Tryz.func172.trans (congrArg some (by kernel_rfl))⟩
 f57:=⟨Tryz.f173.name,by decide,Tryz.func173.trans (congrArg some (by kernel_rfl))⟩
 t0:=Tryz.underlying0
 a0:=Tryz.isAgg0
 z0:=Tryz.sizeOf0
 v0:=Tryz.zeroValue0
 t3:=Tryz.underlying3
 a3:=Tryz.isAgg3
 z3:=Tryz.sizeOf3
 v3:=Tryz.zeroValue3
 t4:=Tryz.underlying4
 a4:=Tryz.isAgg4
 z4:=Tryz.sizeOf4
 v4:=Tryz.zeroValue4
 t5:=Tryz.underlying5
 a5:=Tryz.isAgg5
 z5:=Tryz.sizeOf5
 v5:=Tryz.zeroValue5
 t9:=Tryz.underlying9
 a9:=Tryz.isAgg9
 z9:=Tryz.sizeOf9
 v9:=Tryz.zeroValue9
 t22:=Tryz.underlying129
 a22:=Tryz.isAgg129
 z22:=Tryz.sizeOf129
 v22:=Tryz.zeroValue129
 t25:=Tryz.underlying194
 a25:=Tryz.isAgg194
 z25:=Tryz.sizeOf194
 v25:=Tryz.zeroValue194
 t39:=Tryz.underlying140
 a39:=Tryz.isAgg140
 z39:=Tryz.sizeOf140
 v39:=Tryz.zeroValue140
 t45:=Tryz.underlying228
 a45:=Tryz.isAgg228
 z45:=Tryz.sizeOf228
 v45:=Tryz.zeroValue228
 t46:=Tryz.underlying229
 a46:=Tryz.isAgg229
 z46:=Tryz.sizeOf229
 v46:=Tryz.zeroValue229
 t50:=Tryz.underlying136
 a50:=Tryz.isAgg136
 z50:=Tryz.sizeOf136
 v50:=Tryz.zeroValue136
 t53:=Tryz.underlying235
 a53:=Tryz.isAgg235
 z53:=Tryz.sizeOf235
 v53:=Tryz.zeroValue235
 t55:=Tryz.underlying131
 a55:=Tryz.isAgg131
 z55:=Tryz.sizeOf131
 v55:=Tryz.zeroValue131
 t66:=Tryz.underlying237
 a66:=Tryz.isAgg237
 z66:=Tryz.sizeOf237
 v66:=Tryz.zeroValue237
 t70:=Tryz.underlying241
 a70:=Tryz.isAgg241
 z70:=Tryz.sizeOf241
 v70:=Tryz.zeroValue241
 t76:=Tryz.underlying243
 a76:=Tryz.isAgg243
 z76:=Tryz.sizeOf243
 v76:=Tryz.zeroValue243
 t77:=Tryz.underlying67
 a77:=Tryz.isAgg67
 z77:=Tryz.sizeOf67
 v77:=Tryz.zeroValue67 }
end Go.Proofs
namespace Go.Ev
open Go.Proofs Go.RowKit Go.Sort
def Sml:El where
 α:={ p:Int×Int // 0<=p.1/\p.1<4294967296 }
 inh:=⟨⟨(0,0),by decide⟩⟩
 val a:=a.1
 mk? p:=if h:0<=p.1/\p.1<4294967296 then some ⟨p,h⟩ else none
 ok p a h:=by
  split at h
  ·simp at h;subst h;rfl
  ·cases h
def cfE (x y:Sml.α):Int:=(Sml.val x).1-(Sml.val y).1
set_option maxHeartbeats 1000000 in
theorem L8 (x y:Sml.α) (W:World):Calls Tryz.prog 103 #[.agg (Sml.enc x).toArray,.agg (Sml.enc y).toArray] W fun e w'=>e=.returned (.int .i64 (cfE x y))/\∃ q os',w' = Sort.grow (W.drewN q) os':=by
 obtain⟨⟨a,b⟩,ha⟩:=x;obtain⟨⟨c,d⟩,hc⟩:=y;have hw:IntKind.i64.wrap (a-c)=a-c:=by simp at ha hc;simp[IntKind.wrap,IntKind.bits,IntKind.signed];omega
 show Calls Tryz.prog 103 #[.agg #[.int .i64 a,.int .i64 b],.agg #[.int .i64 c,.int .i64 d]] W fun e w'=>e=.returned (.int .i64 (a-c))/\∃ q os',w' = Sort.grow (W.drewN q) os'
 go_enter Tryz.func103,Tryz.ntmps103
 go_wp2
 go_ret
 refine⟨rfl,0,_,by rw[Sort.alloc_eq_grow,Sort.alloc_eq_grow,Sort.grow_grow];rfl⟩
end Go.Ev
namespace Go.Ev
open Go.Proofs Go.Shelf Go.RowKit Go.Lib Go.Sort
theorem ltE (x y:Sml.α):ltOf cfE x y=decide ((Sml.val x).1<(Sml.val y).1):=by
 unfold ltOf cfE;by_cases h:(Sml.val x).1<(Sml.val y).1
 ·simp[h];omega
 ·simp[h];omega
theorem swoE:SWO (ltOf cfE) where
 irrefl x:=by rw[ltE];simp
 trans x y z h1 h2:=by rw[ltE]at *;simp at *;omega
 ntrans x y z h1 h2:=by rw[ltE]at *;simp at *;omega
def srtE (d:Array Sml.α):Array Sml.α:=pdq (ltOf cfE) d 0 d.size (Lib.bitLen d.size) true true
theorem srtE_holds (d:Array Sml.α):PermIn 0 d.size d (srtE d)/\SortedIn (ltOf cfE) 0 d.size (srtE d):=
 pdq_sorts (ltOf cfE) swoE d 0 d.size (Lib.bitLen d.size) true true (Nat.zero_le _) (Nat.le_refl _) (Or.inl rfl)
theorem M0 (d:Array Sml.α):(srtE d).size=d.size:=(srtE_holds d).1.1
end Go.Ev
namespace Go.Ev
open Go.Sort
def Small (x:Int×Int):Prop:=0<=x.1/\x.1<4294967296
instance (x:Int×Int):Decidable (Small x):=inferInstanceAs (Decidable (_/\_))
end Go.Ev
