/- The contracts of slices.SortFunc at three places of this program (printed by lay-plain.mjs). -/
import Derived.Test.YtkolcijbdendhaaGreatF11
import Derived.Shelf.SlGeneric
import Derived.Shelf.SlLaysF0
import Derived.Test.YtkolcijbdendhaaGreatProg
import Derived.BigCall
import Derived.BigGuard
import Derived.Handy
import Derived.Sort.AssemblyPlain
import Derived.Shelf.SlSortCmp.Insertion
set_option linter.unusedVariables false
set_option linter.unusedSimpArgs false
namespace Go.Proofs
open Go.Shelf
def Tryz.sortL_ren:Go.Shelf.Ren:=⟨fun|6=>76|15=>105|14=>104|28=>126|29=>127|20=>118|21=>119|22=>120|23=>121|24=>122|25=>123|26=>124|27=>125|46=>134|47=>135|48=>136|49=>137|50=>138|57=>149|n=>n,fun|22=>87|24=>93|25=>117|3=>3|39=>138|0=>0|53=>156|55=>89|4=>4|46=>150|45=>149|50=>78|5=>5|9=>9|66=>162|70=>166|76=>175|77=>146|n=>n,fun|n=>n⟩
theorem Tryz.sortL:Go.Proofs.SlLaysF0.n6 Tryz.prog Tryz.sortL_ren:={
 mixed:=by kernel_rfl
 f6:=⟨Tryz.f76.name,by decide,Tryz.func76.trans (congrArg some (by kernel_rfl))⟩
 f14:=⟨Tryz.f104.name,by decide,Tryz.func104.trans (congrArg some (by kernel_rfl))⟩
 f15:=Tryz.func105.trans (congrArg some (by kernel_rfl))
 f20:=⟨Tryz.f118.name,by decide,Tryz.func118.trans (congrArg some (by kernel_rfl))⟩
 f21:=⟨Tryz.f119.name,by decide,Tryz.func119.trans (congrArg some (by kernel_rfl))⟩
 f22:=⟨Tryz.f120.name,by decide,Tryz.func120.trans (congrArg some (by kernel_rfl))⟩
 f23:=⟨Tryz.f121.name,by decide,Tryz.func121.trans (congrArg some (by kernel_rfl))⟩
 f24:=⟨Tryz.f122.name,by decide,Tryz.func122.trans (congrArg some (by kernel_rfl))⟩
 f25:=⟨Tryz.f123.name,by decide,Tryz.func123.trans (congrArg some (by kernel_rfl))⟩
 f26:=⟨Tryz.f124.name,by decide,Tryz.func124.trans (congrArg some (by kernel_rfl))⟩
 f27:=⟨Tryz.f125.name,by decide,Tryz.func125.trans (congrArg some (by kernel_rfl))⟩
 f28:=Tryz.func126.trans (congrArg some (by kernel_rfl))
 f29:=Tryz.func127.trans (congrArg some (by kernel_rfl))
 f46:=⟨Tryz.f134.name,by decide,Tryz.func134.trans (congrArg some (by kernel_rfl))⟩
 f47:=Tryz.func135.trans (congrArg some (by kernel_rfl))
 f48:=Tryz.func136.trans (congrArg some (by kernel_rfl))
 f49:=⟨Tryz.f137.name,by decide,Tryz.func137.trans (congrArg some (by kernel_rfl))⟩
 f50:=⟨Tryz.f138.name,by decide,Tryz.func138.trans (congrArg some (by kernel_rfl))⟩
 f57:=⟨Tryz.f149.name,by decide,Tryz.func149.trans (congrArg some (by kernel_rfl))⟩
 t0:=Tryz.underlying0
 a0:=Tryz.isAgg0
 z0:=Tryz.sizeOf0
 v0:=Tryz.zeroValue0
 t3:=Tryz.underlying3
 a3:=Tryz.isAgg3
 z3:=Tryz.sizeOf3
 v3:=Tryz.zeroValue3
 t4:=Tryz.underlying4
 a4:=Tryz.isAgg4
 z4:=Tryz.sizeOf4
 v4:=Tryz.zeroValue4
 t5:=Tryz.underlying5
 a5:=Tryz.isAgg5
 z5:=Tryz.sizeOf5
 v5:=Tryz.zeroValue5
 t9:=Tryz.underlying9
 a9:=Tryz.isAgg9
 z9:=Tryz.sizeOf9
 v9:=Tryz.zeroValue9
 t22:=Tryz.underlying87
 a22:=Tryz.isAgg87
 z22:=Tryz.sizeOf87
 v22:=Tryz.zeroValue87
 t25:=Tryz.underlying117
 a25:=Tryz.isAgg117
 z25:=Tryz.sizeOf117
 v25:=Tryz.zeroValue117
 t39:=Tryz.underlying138
 a39:=Tryz.isAgg138
 z39:=Tryz.sizeOf138
 v39:=Tryz.zeroValue138
 t45:=Tryz.underlying149
 a45:=Tryz.isAgg149
 z45:=Tryz.sizeOf149
 v45:=Tryz.zeroValue149
 t46:=Tryz.underlying150
 a46:=Tryz.isAgg150
 z46:=Tryz.sizeOf150
 v46:=Tryz.zeroValue150
 t50:=Tryz.underlying78
 a50:=Tryz.isAgg78
 z50:=Tryz.sizeOf78
 v50:=Tryz.zeroValue78
 t53:=Tryz.underlying156
 a53:=Tryz.isAgg156
 z53:=Tryz.sizeOf156
 v53:=Tryz.zeroValue156
 t55:=Tryz.underlying89
 a55:=Tryz.isAgg89
 z55:=Tryz.sizeOf89
 v55:=Tryz.zeroValue89
 t66:=Tryz.underlying162
 a66:=Tryz.isAgg162
 z66:=Tryz.sizeOf162
 v66:=Tryz.zeroValue162
 t70:=Tryz.underlying166
 a70:=Tryz.isAgg166
 z70:=Tryz.sizeOf166
 v70:=Tryz.zeroValue166
 t76:=Tryz.underlying175
 a76:=Tryz.isAgg175
 z76:=Tryz.sizeOf175
 v76:=Tryz.zeroValue175
 t77:=Tryz.underlying146
 a77:=Tryz.isAgg146
 z77:=Tryz.sizeOf146
 v77:=Tryz.zeroValue146 }
def Tryz.sortM_ren:Go.Shelf.Ren:=⟨fun|6=>128|15=>105|14=>139|28=>126|29=>127|20=>150|21=>151|22=>152|23=>153|24=>154|25=>155|26=>156|27=>157|46=>161|47=>135|48=>136|49=>162|50=>163|57=>165|n=>n,fun|22=>23|24=>73|25=>159|3=>3|39=>138|0=>0|53=>156|55=>89|4=>4|46=>150|45=>149|50=>78|5=>5|9=>9|66=>162|70=>166|76=>175|77=>146|n=>n,fun|n=>n⟩
theorem Tryz.sortM:Go.Proofs.SlLaysF0.n6 Tryz.prog Tryz.sortM_ren:={
 mixed:=by kernel_rfl
 f6:=⟨Tryz.f128.name,by decide,Tryz.func128.trans (congrArg some (by kernel_rfl))⟩
 f14:=⟨Tryz.f139.name,by decide,Tryz.func139.trans (congrArg some (by kernel_rfl))⟩
 f15:=Tryz.func105.trans (congrArg some (by kernel_rfl))
 f20:=⟨Tryz.f150.name,by decide,Tryz.func150.trans (congrArg some (by kernel_rfl))⟩
 f21:=⟨Tryz.f151.name,by decide,Tryz.func151.trans (congrArg some (by kernel_rfl))⟩
 f22:=⟨Tryz.f152.name,by decide,Tryz.func152.trans (congrArg some (by kernel_rfl))⟩
 f23:=⟨Tryz.f153.name,by decide,Tryz.func153.trans (congrArg some (by kernel_rfl))⟩
 f24:=⟨Tryz.f154.name,by decide,Tryz.func154.trans (congrArg some (by kernel_rfl))⟩
 f25:=⟨Tryz.f155.name,by decide,Tryz.func155.trans (congrArg some (by kernel_rfl))⟩
 f26:=⟨Tryz.f156.name,by decide,Tryz.func156.trans (congrArg some (by kernel_rfl))⟩
 f27:=⟨Tryz.f157.name,by decide,Tryz.func157.trans (congrArg some (by kernel_rfl))⟩
 f28:=Tryz.func126.trans (congrArg some (by kernel_rfl))
 f29:=Tryz.func127.trans (congrArg some (by kernel_rfl))
 f46:=⟨Tryz.f161.name,by decide,Tryz.func161.trans (congrArg some (by kernel_rfl))⟩
 f47:=Tryz.func135.trans (congrArg some (by kernel_rfl))
 f48:=Tryz.func136.trans (congrArg some (by kernel_rfl))
 f49:=⟨Tryz.f162.name,by decide,Tryz.func162.trans (congrArg some (by kernel_rfl))⟩
 f50:=⟨Tryz.f163.name,by decide,Tryz.func163.trans (congrArg some (by kernel_rfl))⟩
 f57:=⟨Tryz.f165.name,by decide,Tryz.func165.trans (congrArg some (by kernel_rfl))⟩
 t0:=Tryz.underlying0
 a0:=Tryz.isAgg0
 z0:=Tryz.sizeOf0
 v0:=Tryz.zeroValue0
 t3:=Tryz.underlying3
 a3:=Tryz.isAgg3
 z3:=Tryz.sizeOf3
 v3:=Tryz.zeroValue3
 t4:=Tryz.underlying4
 a4:=Tryz.isAgg4
 z4:=Tryz.sizeOf4
 v4:=Tryz.zeroValue4
 t5:=Tryz.underlying5
 a5:=Tryz.isAgg5
 z5:=Tryz.sizeOf5
 v5:=Tryz.zeroValue5
 t9:=Tryz.underlying9
 a9:=Tryz.isAgg9
 z9:=Tryz.sizeOf9
 v9:=Tryz.zeroValue9
 t22:=Tryz.underlying23
 a22:=Tryz.isAgg23
 z22:=Tryz.sizeOf23
 v22:=Tryz.zeroValue23
 t25:=Tryz.underlying159
 a25:=Tryz.isAgg159
 z25:=Tryz.sizeOf159
 v25:=Tryz.zeroValue159
 t39:=Tryz.underlying138
 a39:=Tryz.isAgg138
 z39:=Tryz.sizeOf138
 v39:=Tryz.zeroValue138
 t45:=Tryz.underlying149
 a45:=Tryz.isAgg149
 z45:=Tryz.sizeOf149
 v45:=Tryz.zeroValue149
 t46:=Tryz.underlying150
 a46:=Tryz.isAgg150
 z46:=Tryz.sizeOf150
 v46:=Tryz.zeroValue150
 t50:=Tryz.underlying78
 a50:=Tryz.isAgg78
 z50:=Tryz.sizeOf78
 v50:=Tryz.zeroValue78
 t53:=Tryz.underlying156
 a53:=Tryz.isAgg156
 z53:=Tryz.sizeOf156
 v53:=Tryz.zeroValue156
 t55:=Tryz.underlying89
 a55:=Tryz.isAgg89
 z55:=Tryz.sizeOf89
 v55:=Tryz.zeroValue89
 t66:=Tryz.underlying162
 a66:=Tryz.isAgg162
 z66:=Tryz.sizeOf162
 v66:=Tryz.zeroValue162
 t70:=Tryz.underlying166
 a70:=Tryz.isAgg166
 z70:=Tryz.sizeOf166
 v70:=Tryz.zeroValue166
 t76:=Tryz.underlying175
 a76:=Tryz.isAgg175
 z76:=Tryz.sizeOf175
 v76:=Tryz.zeroValue175
 t77:=Tryz.underlying146
 a77:=Tryz.isAgg146
 z77:=Tryz.sizeOf146
 v77:=Tryz.zeroValue146 }
def Tryz.sortR_ren:Go.Shelf.Ren:=⟨fun|6=>111|15=>105|14=>131|28=>126|29=>127|20=>140|21=>141|22=>142|23=>143|24=>144|25=>145|26=>146|27=>147|46=>158|47=>135|48=>136|49=>159|50=>160|57=>164|n=>n,fun|22=>24|24=>26|25=>75|3=>3|39=>138|0=>0|53=>156|55=>89|4=>4|46=>150|45=>149|50=>78|5=>5|9=>9|66=>162|70=>166|76=>175|77=>146|n=>n,fun|n=>n⟩
theorem Tryz.sortR:Go.Proofs.SlLaysF0.n6 Tryz.prog Tryz.sortR_ren:={
 mixed:=by kernel_rfl
 f6:=⟨Tryz.f111.name,by decide,Tryz.func111.trans (congrArg some (by kernel_rfl))⟩
 f14:=⟨Tryz.f131.name,by decide,Tryz.func131.trans (congrArg some (by kernel_rfl))⟩
 f15:=Tryz.func105.trans (congrArg some (by kernel_rfl))
 f20:=⟨Tryz.f140.name,by decide,Tryz.func140.trans (congrArg some (by kernel_rfl))⟩
 f21:=⟨Tryz.f141.name,by decide,Tryz.func141.trans (congrArg some (by kernel_rfl))⟩
 f22:=⟨Tryz.f142.name,by decide,Tryz.func142.trans (congrArg some (by kernel_rfl))⟩
 f23:=⟨Tryz.f143.name,by decide,Tryz.func143.trans (congrArg some (by kernel_rfl))⟩
 f24:=⟨Tryz.f144.name,by decide,Tryz.func144.trans (congrArg some (by kernel_rfl))⟩
 f25:=⟨Tryz.f145.name,by decide,Tryz.func145.trans (congrArg some (by kernel_rfl))⟩
 f26:=⟨Tryz.f146.name,by decide,Tryz.func146.trans (congrArg some (by kernel_rfl))⟩
 f27:=⟨Tryz.f147.name,by decide,Tryz.func147.trans (congrArg some (by kernel_rfl))⟩
 f28:=Tryz.func126.trans (congrArg some (by kernel_rfl))
 f29:=Tryz.func127.trans (congrArg some (by kernel_rfl))
 f46:=⟨Tryz.f158.name,by decide,Tryz.func158.trans (congrArg some (by kernel_rfl))⟩
 f47:=Tryz.func135.trans (congrArg some (by kernel_rfl))
 f48:=Tryz.func136.trans (congrArg some (by kernel_rfl))
 f49:=⟨Tryz.f159.name,by decide,Tryz.func159.trans (congrArg some (by kernel_rfl))⟩
 f50:=⟨Tryz.f160.name,by decide,Tryz.func160.trans (congrArg some (by kernel_rfl))⟩
 f57:=⟨Tryz.f164.name,by decide,Tryz.func164.trans (congrArg some (by kernel_rfl))⟩
 t0:=Tryz.underlying0
 a0:=Tryz.isAgg0
 z0:=Tryz.sizeOf0
 v0:=Tryz.zeroValue0
 t3:=Tryz.underlying3
 a3:=Tryz.isAgg3
 z3:=Tryz.sizeOf3
 v3:=Tryz.zeroValue3
 t4:=Tryz.underlying4
 a4:=Tryz.isAgg4
 z4:=Tryz.sizeOf4
 v4:=Tryz.zeroValue4
 t5:=Tryz.underlying5
 a5:=Tryz.isAgg5
 z5:=Tryz.sizeOf5
 v5:=Tryz.zeroValue5
 t9:=Tryz.underlying9
 a9:=Tryz.isAgg9
 z9:=Tryz.sizeOf9
 v9:=Tryz.zeroValue9
 t22:=Tryz.underlying24
 a22:=Tryz.isAgg24
 z22:=Tryz.sizeOf24
 v22:=Tryz.zeroValue24
 t25:=Tryz.underlying75
 a25:=Tryz.isAgg75
 z25:=Tryz.sizeOf75
 v25:=Tryz.zeroValue75
 t39:=Tryz.underlying138
 a39:=Tryz.isAgg138
 z39:=Tryz.sizeOf138
 v39:=Tryz.zeroValue138
 t45:=Tryz.underlying149
 a45:=Tryz.isAgg149
 z45:=Tryz.sizeOf149
 v45:=Tryz.zeroValue149
 t46:=Tryz.underlying150
 a46:=Tryz.isAgg150
 z46:=Tryz.sizeOf150
 v46:=Tryz.zeroValue150
 t50:=Tryz.underlying78
 a50:=Tryz.isAgg78
 z50:=Tryz.sizeOf78
 v50:=Tryz.zeroValue78
 t53:=Tryz.underlying156
 a53:=Tryz.isAgg156
 z53:=Tryz.sizeOf156
 v53:=Tryz.zeroValue156
 t55:=Tryz.underlying89
 a55:=Tryz.isAgg89
 z55:=Tryz.sizeOf89
 v55:=Tryz.zeroValue89
 t66:=Tryz.underlying162
 a66:=Tryz.isAgg162
 z66:=Tryz.sizeOf162
 v66:=Tryz.zeroValue162
 t70:=Tryz.underlying166
 a70:=Tryz.isAgg166
 z70:=Tryz.sizeOf166
 v70:=Tryz.zeroValue166
 t76:=Tryz.underlying175
 a76:=Tryz.isAgg175
 z76:=Tryz.sizeOf175
 v76:=Tryz.zeroValue175
 t77:=Tryz.underlying146
 a77:=Tryz.isAgg146
 z77:=Tryz.sizeOf146
 v77:=Tryz.zeroValue146 }
end Go.Proofs
namespace Go.Ev
open Go.Proofs Go.RowKit Go.Sort
def Sml:El where
 α:={ p:Int×Int // 0<=p.1/\p.1<4294967296 }
 inh:=⟨⟨(0,0),by decide⟩⟩
 val a:=a.1
 mk? p:=if h:0<=p.1/\p.1<4294967296 then some ⟨p,h⟩ else none
 ok p a h:=by
  split at h
  ·simp at h;subst h;rfl
  ·cases h
def cfE (x y:Sml.α):Int:=(Sml.val x).1-(Sml.val y).1
set_option maxHeartbeats 1000000 in
theorem Nu (x y:Sml.α) (W:World):Calls Tryz.prog 77 #[.agg (Sml.enc x).toArray,.agg (Sml.enc y).toArray] W fun e w'=>e=.returned (.int .i64 (cfE x y))/\∃ q os',w' = Sort.grow (W.drewN q) os':=by
 obtain⟨⟨a,b⟩,ha⟩:=x;obtain⟨⟨c,d⟩,hc⟩:=y;have hw:IntKind.i64.wrap (a-c)=a-c:=by simp at ha hc;simp[IntKind.wrap,IntKind.bits,IntKind.signed];omega
 show Calls Tryz.prog 77 #[.agg #[.int .i64 a,.int .i64 b],.agg #[.int .i64 c,.int .i64 d]] W fun e w'=>e=.returned (.int .i64 (a-c))/\∃ q os',w' = Sort.grow (W.drewN q) os'
 go_enter Tryz.func77,Tryz.ntmps77
 go_wp2
 go_ret
 refine⟨rfl,0,_,by rw[Sort.alloc_eq_grow,Sort.alloc_eq_grow,Sort.grow_grow];rfl⟩
set_option maxHeartbeats 1000000 in
theorem MA (x y:Sml.α) (W:World):Calls Tryz.prog 129 #[.agg (Sml.enc x).toArray,.agg (Sml.enc y).toArray] W fun e w'=>e=.returned (.int .i64 (cfE x y))/\∃ q os',w' = Sort.grow (W.drewN q) os':=by
 obtain⟨⟨a,b⟩,ha⟩:=x;obtain⟨⟨c,d⟩,hc⟩:=y;have hw:IntKind.i64.wrap (a-c)=a-c:=by simp at ha hc;simp[IntKind.wrap,IntKind.bits,IntKind.signed];omega
 show Calls Tryz.prog 129 #[.agg #[.int .i64 a,.int .i64 b],.agg #[.int .i64 c,.int .i64 d]] W fun e w'=>e=.returned (.int .i64 (a-c))/\∃ q os',w' = Sort.grow (W.drewN q) os'
 go_enter Tryz.func129,Tryz.ntmps129
 go_wp2
 go_ret
 refine⟨rfl,0,_,by rw[Sort.alloc_eq_grow,Sort.alloc_eq_grow,Sort.grow_grow];rfl⟩
end Go.Ev
namespace Go.Ev
open Go.Proofs Go.Shelf Go.RowKit Go.Lib Go.Sort
theorem ltE (x y:Sml.α):ltOf cfE x y=decide ((Sml.val x).1<(Sml.val y).1):=by
 unfold ltOf cfE;by_cases h:(Sml.val x).1<(Sml.val y).1
 ·simp[h];omega
 ·simp[h];omega
theorem swoE:SWO (ltOf cfE) where
 irrefl x:=by rw[ltE];simp
 trans x y z h1 h2:=by rw[ltE]at *;simp at *;omega
 ntrans x y z h1 h2:=by rw[ltE]at *;simp at *;omega
def srtE (d:Array Sml.α):Array Sml.α:=pdq (ltOf cfE) d 0 d.size (Lib.bitLen d.size) true true
theorem srtE_holds (d:Array Sml.α):PermIn 0 d.size d (srtE d)/\SortedIn (ltOf cfE) 0 d.size (srtE d):=
 pdq_sorts (ltOf cfE) swoE d 0 d.size (Lib.bitLen d.size) true true (Nat.zero_le _) (Nat.le_refl _) (Or.inl rfl)
theorem FB (d:Array Sml.α):(srtE d).size=d.size:=(srtE_holds d).1.1
end Go.Ev
namespace Go.Ev
open Go.Sort
def Small (x:Int×Int):Prop:=0<=x.1/\x.1<4294967296
instance (x:Int×Int):Decidable (Small x):=inferInstanceAs (Decidable (_/\_))
def smlL (xs:List (Int×Int)):List Sml.α:=xs.filterMap Sml.mk?
def sortE (xs:List (Int×Int)):List (Int×Int):=(srtE (smlL xs).toArray).toList.map Sml.val
theorem Em:∀ {xs:List (Int×Int)},(∀ x∈xs,Small x)->(smlL xs).map Sml.val=xs
 | [],_=>rfl
 | x::xs,h=>by
   have h1:=h x (by simp);have e:Sml.mk? x=some (⟨x,h1⟩:{ p:Int×Int // 0<=p.1/\p.1<4294967296 }):=dif_pos h1;have ih:=Em (xs:=xs) (fun y hy=>h y (List.mem_cons_of_mem x hy));unfold smlL at ih |-;rw[List.filterMap_cons_some e];exact congrArg (x::·) ih
theorem FD:∀ {xs:List (Int×Int)},(∀ x∈xs,Small x)->xs.mapM Sml.mk?=some (smlL xs)
 | [],_=>rfl
 | x::xs,h=>by
   have h1:=h x (by simp);have e:Sml.mk? x=some (⟨x,h1⟩:{ p:Int×Int // 0<=p.1/\p.1<4294967296 }):=dif_pos h1;have ih:=FD (xs:=xs) (fun y hy=>h y (List.mem_cons_of_mem x hy));rw[List.mapM_cons,e,ih];unfold smlL;rw[List.filterMap_cons_some e];rfl
theorem DN {xs:List (Int×Int)} (h:∀ x∈xs,Small x):(sortE xs).Perm xs:=by
 obtain⟨h1,_,h3⟩:=(srtE_holds (smlL xs).toArray).1;have e1:(srtE (smlL xs).toArray).extract 0 (smlL xs).toArray.size=srtE (smlL xs).toArray:=by rw[<- h1];exact Array.extract_size
 rw[e1,Array.extract_size]at h3;have:=h3.map Sml.val;rw[show ((smlL xs).toArray.toList)=smlL xs from rfl,Em h]at this;exact this
theorem DM (xs:List (Int×Int)):(sortE xs).Pairwise (fun a b=>a.1<=b.1):=by
 have h2:=(srtE_holds (smlL xs).toArray).2;have hs:=FB (smlL xs).toArray;unfold sortE;rw[List.pairwise_map,List.pairwise_iff_getElem];intro i j hi hj hij;have hi':i<(srtE (smlL xs).toArray).size:=by simpa using hi
 have hj':j<(srtE (smlL xs).toArray).size:=by simpa using hj
 have h3:=h2 i j (Nat.zero_le _) hij (by rw[<- hs];exact hj');rw[ltE,getElem!_pos _ i hi',getElem!_pos _ j hj']at h3;simp at h3
 simpa using h3
theorem DO {xs:List (Int×Int)} (h:∀ x∈xs,Small x):(sortE xs).length=xs.length:=(DN h).length_eq
theorem Lb {g:Nat}{xs:List (Int×Int)} (h:∀ x∈xs,Small x) {n:Nat} (hn:xs.length=n) (hl:n<=4000000000) {H:List MB}{id:Nat} (hr:getRow H id=some (2,xs.map el2,0)) :
  ∃ H',sort2Ext Sml g srtE [.ms id 2 n 0 n,.clo g []] H=some (.tup [],H')/\getRow H' id=some (2,(sortE xs).map el2,0):=by
 subst hn;have hlt:id<H.length:=by
  unfold getRow at hr;rcases Nat.lt_or_ge id H.length with h1|h1
  ·exact h1
  ·rw[List.getElem?_eq_none h1]at hr;cases hr
 by_cases h0:xs.length=0
 ·have hx:xs=[]:=List.length_eq_zero_iff.1 h0;subst hx;refine⟨H,?_,?_⟩
  ·simp only[sort2Ext];simp
  ·rw[hr];have:sortE []=[]:=List.length_eq_zero_iff.1 (DO (xs:=[]) h);rw[this]
 ·have hu:=Sml.unL_map xs (smlL xs) (FD h);have hlen:(smlL xs).length=xs.length:=by have:=congrArg List.length (Em h);simpa using this
  refine⟨H.set id (.row 2 ((sortE xs).map el2) 0),?_,?_⟩
  ·simp only[sort2Ext];rw[if_neg (by rintro⟨h,_⟩;exact h0 h)];simp only[hr,hu];rw[if_pos ⟨trivial,hlen.symm,hlen.symm,by omega,by omega⟩];unfold sortE;rw[List.map_map];rfl
  ·unfold getRow;rw[List.getElem?_set_self hlt]
end Go.Ev
