/- Functions of the program, each with what it computes; no further conditions. -/
import Derived.Test.YtjgmfjneajcbmaaR07
import Derived.Test.YtjgmfjneajcbmaaR08
import Derived.Test.YtjgmfjneajcbmaaR09
import Derived.IntWalk
set_option linter.unusedVariables false
set_option linter.unusedSimpArgs false
namespace Go.Ev
open Go.Proofs Go.RowKit Go.IntWalk
def mk4:List (Nat×(List Nat×Option Nat)):=[(7,([11,9,8,7],none))]
def be4:List (List Nat):=[[55,11,9,8,7],[90]]
def de4:List (List Nat):=[[6],[20,19,18,0],[22,21,1],[30,29,28,27,26,25,24,23,2],[35,34,33,32,31],[51,50,49,48,47,46,45,44,43,42,41,40,39,38,37,36,10,9,8,7],[36,10],[54,53,52],[57,56],[65,64,63,62,61,60,59,58,55],[73,72,71,70,69,68,67,66],[89,88,87,86,85,84,83,82,81,80,79,78,77,76,75,74,17,16,15,14,13,12],[90,11,9,8,7],[91]]
def mk9:List (Nat×(List Nat×Option Nat)):=[(8,([25,24,7,1],none))]
def be9:List (List Nat):=[[26,25,24],[]]
def de9:List (List Nat):=[[5,4,0],[10,9],[11],[13,12,6,2,1],[18,17,16,15,14,12,6],[19,2,1],[22,21,20,19,2],[23],[],[27,26],[37,36,35,34,33,32,31,30,29,28,8],[38],[46,45,44,43,42,41,40,39,7,1]]
def mk10:List (Nat×(List Nat×Option Nat)):=[(3,([4,3,2,1],some 5))]
def be10:List (List Nat):=[[15,4,1],[]]
def de10:List (List Nat):=[[0],[10,9,8,7,6],[],[14,13,12,11],[17,16],[22,21,20,19,18,15],[38,37,36,35,34,33,32,31,30,29,28,27,26,25,24,23,5],[39,3]]
def de13:List (List Nat):=[[8,7,6],[11,10],[12,2,1,0],[19,18,17,16,15,14,13,12],[20,2,1,0],[24,23,22,21,20,2,1,0],[25],[27,26,9],[26,9]]
def de15:List (List Nat):=[[0],[14,13],[16,15],[25,24,23,22,21,20,19,18,17,2,1],[30,29,28,27,26],[35,34,33,32,31,3],[48,47,46,45,44,43,42,41,40,39,38,37,36,7,5,4],[49,6],[56,55,54,53,52,51,50,49],[61,60,59,58,57,6],[78,77,76,75,74,73,72,71,70,69,68,67,66,65,64,63,62,12,11,10,9,8]]
def mk16:List (Nat×(List Nat×Option Nat)):=[(4,([5,4,3,2,0],some 4))]
def be16:List (List Nat):=[[19,5,3,0],[],[89,68,51,32,6]]
def de16:List (List Nat):=[[],[10,9,8],[16,15,14,13,12,11],[],[18,17],[21,20],[25,24,23,22,19],[26],[27],[85,31,30,29],[36,35,34,33,32,6],[38],[39],[40],[47,46,45,44,43,42,41,37,28],[50,49,48,6],[52,51],[54,37],[55],[64,63,62,61,60,59,58,57,56,53,28],[67,66,65],[77,76,75,74,73,72,71,70,69,68,6],[79,53],[84,83,82,81,80,78,28,6],[86,78,28],[88,87,85],[96,95,94,93,92,91,90,89,6],[109,108,107,106,105,104,103,102,101,100,99,98,97],[111,110],[117,116,115,114,113,112,110,7],[118,4]]
def mk17:List (Nat×(List Nat×Option Nat)):=[(3,([6,5,1,0],some 1))]
def be17:List (List Nat):=[[15,6,1,0],[]]
def de17:List (List Nat):=[[4],[],[],[14,13,12,11,10,9,8,7],[17,16],[26,25,24,23,22,21,20,19,18,15],[27,5]]
def de18:List (List Nat):=[[4],[5],[9,8,7,6],[12,11,10,6,1,0]]
def mk19:List (Nat×(List Nat×Option Nat)):=[(6,([25,24,1],none))]
def be19:List (List Nat):=[[26,25,24],[34],[45,44]]
def de19:List (List Nat):=[[2,0],[6,5,4],[7,1],[20,19,18,17,16,15,14,13,12,11,10,9,8,7],[21,1],[23,22,21],[],[27,26],[33,32,31,30,29,28,3],[34,25,24,1],[35],[43,42,41,40,39,38,37,36,1],[46],[47],[48,44],[45,44],[]]
def de20:List (List Nat):=[[8,7,0],[18,17,16,15,14,13,3],[19],[22,21,20,10,9,2,1],[29,28,27,26,25,24,23,20,10,1],[31,30,9,2],[38,37,36,35,34,33,32,30,9,2],[40,39,12,11]]
def mk27:List (Nat×(List Nat×Option Nat)):=[(5,([14,13,12],some 1))]
def be27:List (List Nat):=[[15,14,13,12],[20]]
def de27:List (List Nat):=[[2,0],[7,6],[8],[10,9,3,1],[11,9,3,1],[],[17,16,15],[19,18,5],[20,14,13,12],[21],[]]
def de28:List (List Nat):=[[2],[3],[4,0],[7,6,5,4,0]]
def de29:List (List Nat):=[[2],[3],[4,0],[7,6,5,4,0]]
def de30:List (List Nat):=[[4,0],[],[11,10,9],[],[],[12,7,6,2],[15,14,13,8,1],[16,5]]
def mk31:List (Nat×(List Nat×Option Nat)):=[(3,([8,7,2,1,0],none))]
def be31:List (List Nat):=[[49,21,8,2,1,0],[]]
def de31:List (List Nat):=[[6],[],[15,14,13,12,11,10],[20,19,18,17,16],[23,22],[35,34,33,32,31,30,29,28,27,26,25,24,21],[43,42,41,40,39,38,37,36,9],[45,44],[48,47,46,44],[56,55,54,53,52,51,50,49],[57,7]]
def de33:List (List Nat):=[[6],[13,12,11,10,9,8,7],[14,2,1,0],[20,19,18,17,16,15,14,2,1,0]]
def be34:List (List Nat):=[[112,40,8]]
def de34:List (List Nat):=[[4,0],[9],[10],[],[13,12,11],[16],[15,14,5,2],[18,15],[24,23,22,21,20,19,17,14,5],[30,29,28,27,26,25],[39,38,37,36,35,34,33,32,31,2],[49,48,47,46,45,44,43,42,41,40,8],[51,17],[65,64,63,62,61,60,59,58,57,56,55,54,53,52,50,14,5,2],[75,74,73,72,71,70,69,68,67,66],[77,50],[83,82,81,80,79,78,76,14,5,2],[88,87,86,85,84],[90,76,5],[106,105,104,103,102,101,100,99,98,97,96,95,94,93,92,91,89,14,2],[111,110,109,108,107],[113,89,14,2],[125,124,123,122,121,120,119,118,117,116,115,114,112],[130,129,128,127,126],[163,162,161,160,159,158,157,156,155,154,153,152,151,150,149,148,147,146,145,144,143,142,141,140,139,138,137,136,135,134,133,132,131,7,6,1]]
def de35:List (List Nat):=[[5,4,0],[8,7],[9],[11,10,6,2,1],[13,12,10,6],[14,2,1],[22,21,20,19,18,17,16,15,14,2,1]]
def de36:List (List Nat):=[[7,0],[],[],[14,13,12,11,10,3,2,1],[16,15,9,8]]
def mk40:List (Nat×(List Nat×Option Nat)):=[(2,([5,1,0],none))]
def be40:List (List Nat):=[[9,5,1,0],[17]]
def de40:List (List Nat):=[[4],[],[8,7,6],[11,10],[16,15,14,13,12,9],[17,5,1,0],[]]
def mk46:List (Nat×(List Nat×Option Nat)):=[(1,([12,11,10,5,4,3,2,1],none))]
def be46:List (List Nat):=[[13,12,11,10,5,4,3,2,1],[22,8],[58,8]]
def de46:List (List Nat):=[[0],[],[15,14,13],[21,20,19,18,17,16],[25,24,23,22],[29,28,27,26],[30],[33],[34],[38,37,36,35,32,31,8],[41,40,39,9],[43,32],[48,47,46,45,44,42,31,9,8],[50,42],[57,56,55,54,53,52,51,49,31,9,8],[59,49,31,9],[64,63,62,61,60,58,8],[65]]
def de47:List (List Nat):=[[4],[10,9],[13,12,11,1,0],[15,14,11],[24,23,22,21,20,19,18,17,16],[7],[26,25,6,5,1,0],[35,34,33,32,31,30,29,28,27,25,6],[40,39,38,37,36],[47,46,45,44,43,42,41],[55,54,53,52,51,50,49,48,36,1],[61,60,59,58,57,56,5],[68,67,66,65,64,63,62,0],[69,8]]
def de48:List (List Nat):=[[6],[18,17,16,15,14,13,12,11,10],[37,36,35,34,33,32,31,30,29,28,27,26,25,24,23,22,21,20,19,8],[39,38,7,2,1,0],[56,55,54,53,52,51,50,49,48,47,46,45,44,43,42,41,40,38,7,0],[61,60,59,58,57],[66,65,64,63,62],[72,71,70,69,68,67,62,2,1],[73,9]]
def mk51:List (Nat×(List Nat×Option Nat)):=[(3,([12,11,10,3],some 2))]
def be51:List (List Nat):=[[13,12,11,10],[]]
def de51:List (List Nat):=[[2],[9,8,7,6],[0],[],[15,14,13],[23,22,21,20,19,18,17,16,5],[24],[26,25,3]]
def mk52:List (Nat×(List Nat×Option Nat)):=[(3,([12,11,10,7,2,0],some 1))]
def be52:List (List Nat):=[[13,12,11,10,2,0],[30,9]]
def de52:List (List Nat):=[[6],[],[1],[],[15,14,13],[29,28,27,26,25,24,23,22,21,20,19,18,17,16],[35,34,33,32,31,30,9],[36],[37,7]]
def de53:List (List Nat):=[[3],[12,11,10,9,8,7,6,5,4,1,0]]
def mk54:List (Nat×(List Nat×Option Nat)):=[(2,([7,6,5,0],some 0))]
def be54:List (List Nat):=[[8,7,6,5],[30]]
def de54:List (List Nat):=[[2],[],[],[11,10,9,8],[29,28,27,26,25,24,23,22,21,20,19,18,17,16,15,14,13,12,4,3],[30,7,6,5,0],[31],[33,32,0],[34],[34]]
def mk55:List (Nat×(List Nat×Option Nat)):=[(20,([91,90,89,14,13,12,11,10,8,4,3,2,1],some 16)),(13,([14,13,12,11,10,8,4,3,2,1],some 16)),(4,([32,31,8,4,3,2,1],none))]
def be55:List (List Nat):=[[33,32,31],[],[],[],[92,91,90,89],[118,17]]
def de55:List (List Nat):=[[0],[22,21,20,19],[29,28,27,26,25,24,23],[30],[],[34,33],[37,36,35,9],[38],[],[],[],[39],[41,40],[47,46,45,44,43,42],[53,52,51,50,49,48],[57,56,55,54,48],[68,67,66,65,64,63,62,61,60,59,58],[84,83,82,81,80,79,78,77,76,75,74,73,72,71,70,69,15],[88,87,86,85],[],[],[94,93,92],[103,102,101,100,99,98,97,96,95],[117,116,115,114,113,112,111,110,109,108,107,106,105,104,18],[129,128,127,126,125,124,123,122,121,120,119,118,17],[130]]
def mk56:List (Nat×(List Nat×Option Nat)):=[(9,([47,46,8,4],none))]
def be56:List (List Nat):=[[48,47,46,8],[]]
def de56:List (List Nat):=[[7],[13,12],[14,4,3,2,1,0],[20,19,18,17,16,15,14,1],[30,29,28,27,26,25,24,23,22,21],[31,8,4,3,2,0],[31,3],[43,42,41,40,39,38,37,36,35,34,33,32,2,0],[45,44],[],[49,48],[62,61,60,59,58,57,56,55,54,53,52,51,50],[67,66,65,64,63],[68],[75,74,73,72,71,70,69,68,11,10,9],[76],[4]]
def mk65:List (Nat×(List Nat×Option Nat)):=[(2,([9,8,7,1],some 0))]
def be65:List (List Nat):=[[10,9,8,7,1],[22]]
def de65:List (List Nat):=[[4],[0],[],[12,11,10],[21,20,19,18,17,16,15,14,13,6],[22,9,8,7,1],[23],[]]
def de66:List (List Nat):=[[2,0],[17,16,15,14,13,12,11,10,9,8,7,6,5,4,3,1]]
def be67:List (List Nat):=[[116,107,12,7,5,3,2,1,0]]
def de67:List (List Nat):=[[25,24,23,22,21,20,19,18,17,16,15,14],[34,33,32,31,30,29,28,27,26],[42,41,40,39,38,37,36,35],[43],[46],[47],[54,53,52,51,50,49,48,45,44,7,6,5,3,2,1,0],[57,56,55,12,4],[59,45,6,4],[66,65,64,63,62,61,60,58,44,5,0],[73,72,71,70,69,68,67,12,7,3,2,1],[75,58],[82,81,80,79,78,77,76,74,44,12,7,5,3,2,1,0],[84,74],[93,92,91,90,89,88,87,86,85,83,44,5],[106,105,104,103,102,101,100,99,98,97,96,95,94,13,12,7,3,2,1,0],[108,83,44],[115,114,113,112,111,110,109,107,12,5],[123,122,121,120,119,118,117,116,7,3,2,1,0]]
def mk69:List (Nat×(List Nat×Option Nat)):=[(2,([9,8,7,1],some 0))]
def be69:List (List Nat):=[[10,9,8,7,1],[22]]
def de69:List (List Nat):=[[4],[0],[],[12,11,10],[21,20,19,18,17,16,15,14,13,6],[22,9,8,7,1],[23],[]]
def mkTab:List (List (Nat×(List Nat×Option Nat))):=[[],[],[],[],mk4,[],[],[],[],mk9,mk10,[],[],[],[],[],mk16,mk17,[],mk19,[],[],[],[],[],[],[],mk27,[],[],[],mk31,[],[],[],[],[],[],[],[],mk40,[],[],[],[],[],mk46,[],[],[],[],mk51,mk52,[],mk54,mk55,mk56,[],[],[],[],[],[],[],[],mk65,[],[],[],mk69,[],[],[],[],[],[],[],[],[],[],[],[],[],[],[],[],[],[],[],[],[],[],[],[],[],[],[],[],[],[],[],[],[],[],[],[],[],[],[],[],[],[],[],[],[],[],[],[],[],[],[],[],[],[],[]]
def deTab:List (List (List Nat)):=[[],[],[],[],de4,[],[],[],[],de9,de10,[],[],de13,[],de15,de16,de17,de18,de19,de20,[],[],[],[],[],[],de27,de28,de29,de30,de31,[],de33,de34,de35,de36,[],[],[],de40,[],[],[],[],[],de46,de47,de48,[],[],de51,de52,de53,de54,de55,de56,[],[],[],[],[],[],[],[],de65,de66,de67,[],de69,[],[],[],[],[],[],[],[],[],[],[],[],[],[],[],[],[],[],[],[],[],[],[],[],[],[],[],[],[],[],[],[],[],[],[],[],[],[],[],[],[],[],[],[],[],[],[],[],[],[],[],[],[],[],[]]
def beTab:List (List (List Nat)):=[[],[],[],[],be4,[],[],[],[],be9,be10,[],[],[],[],[],be16,be17,[],be19,[],[],[],[],[],[],[],be27,[],[],[],be31,[],[],be34,[],[],[],[],[],be40,[],[],[],[],[],be46,[],[],[],[],be51,be52,[],be54,be55,be56,[],[],[],[],[],[],[],[],be65,[],be67,[],be69,[],[],[],[],[],[],[],[],[],[],[],[],[],[],[],[],[],[],[],[],[],[],[],[],[],[],[],[],[],[],[],[],[],[],[],[],[],[],[],[],[],[],[],[],[],[],[],[],[],[],[],[],[],[],[]]
def notPure:List Nat:=[46,50,53,56,67,57,70,71,72,73,74,29,64,59,75,77,84,85,88,28,9,11,12,13,31,47,48,35,36,55,56,67]
def ownT:List Nat:=[25,44]
def keepT1:List Nat:=[64,9,11,12,13,31,47,48,35,55]
def capT:List (Nat×Nat):=[(46,1),(50,1),(53,1),(56,2),(67,4)]
def recvT:List Nat:=[57,70,71,72,73,74,59,75,77,84,85,88,36]
def allT:List Nat:=[64,11,12,13,31,47,48,55,56]
def byrefT (f i:Nat):Bool:=allT.contains f || (recvT.contains f && i == 0) || (match capT.lookup f with
 | some n=>decide (n≤i)
 | none=>false)
def mutT (f:Nat):List Nat:=match f with
 | 25=>[17,23]
 | 56=>[3000000]
 | _=>[]
def actT (f r:Nat):List SA:=[]
def ractT (f r:Nat):List SA:=if f=4 then(if r=9 then [.frz 12] else []) else if f=9 then(if r=12 then [.frzC 4] else []) else if f=17 then(if r=1 then [.mat 5 1] else []) else if f=22 then(if r=7 then [.mat 6 1] else []) else if f=25 then(if r=1 then [.mat 5 5] else []) else if f=30 then(if r=1 then [.matC 5 0 1] else []) else if f=32 then(if r=17 then [.matC 11 0 1] else []) else if f=38 then(if r=6 then [.matC 14 5 1,.matC 14 6 1] else if r=10 then [.mat 15 3] else []) else if f=44 then(if r=1 then [.mat 5 5] else if r=23 then [.frzC 5] else []) else if f=52 then(if r=1 then [.mat 7 1] else []) else if f=55 then(if r=8 then [.frz 8,.matC 10 0 3,.mat 11 3] else []) else if f=56 then(if r=16 then [.frzC 4] else []) else if f=60 then(if r=1 then [.mat 3 2] else []) else if f=72 then(if r=1 then [.mat 5 8] else []) else if f=75 then(if r=11 then [.frz 14] else []) else if f=77 then(if r=14 then [.frz 10] else []) else []
def altT (f r:Nat):Option (Nat×Nat×List Nat):=if f=38 then(if r=7 then some (4,8,[0,1,2,3,5,6,7,8,4,9]) else none) else if f=73 then(if r=2 then some (9,11,[0,1,2,3,4,5,6,7,8,11,9,10,12]) else none) else none
noncomputable def pol1:Pol where
 byref:=byrefT
 keep:=fun f=>keepT1.contains f
 own:=fun f=>ownT.contains f
 pure:=fun f=>!notPure.contains f
 mask:=fun f r=>((mkTab.getD f []).lookup r).map (·.1)
 gc:=fun f r=>((mkTab.getD f []).lookup r).bind (·.2)
 dead:=fun f r=>(deTab.getD f []).getD r []
 bdead:=fun f r=>(beTab.getD f []).getD r []
 muts:=mutT
 acts:=actT
 racts:=ractT
 alts:=altT
 ext:=fun f=>if f=29 then some (cloneExt 2 16) else if f=28 then some (cloneExtO 5 56) else none
theorem pol1_muts:pol1.muts=mutT:=rfl
theorem dd4:pol1.dead 4 0=[6]∧pol1.dead 4 1=[20,19,18,0]∧pol1.dead 4 2=[22,21,1]∧pol1.dead 4 3=[30,29,28,27,26,25,24,23,2]∧pol1.dead 4 4=[35,34,33,32,31]∧pol1.dead 4 5=[51,50,49,48,47,46,45,44,43,42,41,40,39,38,37,36,10,9,8,7]∧pol1.dead 4 6=[36,10]∧pol1.dead 4 7=[54,53,52]∧pol1.dead 4 8=[57,56]∧pol1.dead 4 9=[65,64,63,62,61,60,59,58,55]∧pol1.dead 4 10=[73,72,71,70,69,68,67,66]∧pol1.dead 4 11=[89,88,87,86,85,84,83,82,81,80,79,78,77,76,75,74,17,16,15,14,13,12]∧pol1.dead 4 12=[90,11,9,8,7]∧pol1.dead 4 13=[91]∧pol1.racts 4 0=[]∧pol1.racts 4 1=[]∧pol1.racts 4 2=[]∧pol1.racts 4 3=[]∧pol1.racts 4 4=[]∧pol1.racts 4 5=[]∧pol1.racts 4 6=[]∧pol1.racts 4 7=[]∧pol1.racts 4 8=[]∧pol1.racts 4 9=[.frz 12]∧pol1.racts 4 10=[]∧pol1.racts 4 11=[]∧pol1.racts 4 12=[]∧pol1.racts 4 13=[]∧(∀ r,pol1.alts 4 r=none)∧pol1.bdead 4 0=[55,11,9,8,7]∧pol1.bdead 4 1=[90]:=by and_intros<;>first|kernel_rfl|exact fun r=>rfl
theorem dd9:pol1.dead 9 0=[5,4,0]∧pol1.dead 9 1=[10,9]∧pol1.dead 9 2=[11]∧pol1.dead 9 3=[13,12,6,2,1]∧pol1.dead 9 4=[18,17,16,15,14,12,6]∧pol1.dead 9 5=[19,2,1]∧pol1.dead 9 6=[22,21,20,19,2]∧pol1.dead 9 7=[23]∧pol1.dead 9 8=[]∧pol1.dead 9 9=[27,26]∧pol1.dead 9 10=[37,36,35,34,33,32,31,30,29,28,8]∧pol1.dead 9 11=[38]∧pol1.dead 9 12=[46,45,44,43,42,41,40,39,7,1]∧pol1.racts 9 0=[]∧pol1.racts 9 1=[]∧pol1.racts 9 2=[]∧pol1.racts 9 3=[]∧pol1.racts 9 4=[]∧pol1.racts 9 5=[]∧pol1.racts 9 6=[]∧pol1.racts 9 7=[]∧pol1.racts 9 8=[]∧pol1.racts 9 9=[]∧pol1.racts 9 10=[]∧pol1.racts 9 11=[]∧pol1.racts 9 12=[.frzC 4]∧pol1.bdead 9 0=[26,25,24]∧pol1.bdead 9 1=[]:=by and_intros<;>first|kernel_rfl|exact fun r=>rfl
theorem dd10:pol1.dead 10 0=[0]∧pol1.dead 10 1=[10,9,8,7,6]∧pol1.dead 10 2=[]∧pol1.dead 10 3=[14,13,12,11]∧pol1.dead 10 4=[17,16]∧pol1.dead 10 5=[22,21,20,19,18,15]∧pol1.dead 10 6=[38,37,36,35,34,33,32,31,30,29,28,27,26,25,24,23,5]∧pol1.dead 10 7=[39,3]∧(∀ r,pol1.racts 10 r=[])∧pol1.bdead 10 0=[15,4,1]∧pol1.bdead 10 1=[]:=by and_intros<;>first|kernel_rfl|exact fun r=>rfl
theorem dd13:pol1.dead 13 0=[8,7,6]∧pol1.dead 13 1=[11,10]∧pol1.dead 13 2=[12,2,1,0]∧pol1.dead 13 3=[19,18,17,16,15,14,13,12]∧pol1.dead 13 4=[20,2,1,0]∧pol1.dead 13 5=[24,23,22,21,20,2,1,0]∧pol1.dead 13 6=[25]∧pol1.dead 13 7=[27,26,9]∧pol1.dead 13 8=[26,9]∧(∀ r,pol1.racts 13 r=[]):=by and_intros<;>first|kernel_rfl|exact fun r=>rfl
theorem dd15:pol1.dead 15 0=[0]∧pol1.dead 15 1=[14,13]∧pol1.dead 15 2=[16,15]∧pol1.dead 15 3=[25,24,23,22,21,20,19,18,17,2,1]∧pol1.dead 15 4=[30,29,28,27,26]∧pol1.dead 15 5=[35,34,33,32,31,3]∧pol1.dead 15 6=[48,47,46,45,44,43,42,41,40,39,38,37,36,7,5,4]∧pol1.dead 15 7=[49,6]∧pol1.dead 15 8=[56,55,54,53,52,51,50,49]∧pol1.dead 15 9=[61,60,59,58,57,6]∧pol1.dead 15 10=[78,77,76,75,74,73,72,71,70,69,68,67,66,65,64,63,62,12,11,10,9,8]∧(∀ r,pol1.racts 15 r=[]):=by and_intros<;>first|kernel_rfl|exact fun r=>rfl
theorem dd16:pol1.dead 16 0=[]∧pol1.dead 16 1=[10,9,8]∧pol1.dead 16 2=[16,15,14,13,12,11]∧pol1.dead 16 3=[]∧pol1.dead 16 4=[18,17]∧pol1.dead 16 5=[21,20]∧pol1.dead 16 6=[25,24,23,22,19]∧pol1.dead 16 7=[26]∧pol1.dead 16 8=[27]∧pol1.dead 16 9=[85,31,30,29]∧pol1.dead 16 10=[36,35,34,33,32,6]∧pol1.dead 16 11=[38]∧pol1.dead 16 12=[39]∧pol1.dead 16 13=[40]∧pol1.dead 16 14=[47,46,45,44,43,42,41,37,28]∧pol1.dead 16 15=[50,49,48,6]∧pol1.dead 16 16=[52,51]∧pol1.dead 16 17=[54,37]∧pol1.dead 16 18=[55]∧pol1.dead 16 19=[64,63,62,61,60,59,58,57,56,53,28]∧pol1.dead 16 20=[67,66,65]∧pol1.dead 16 21=[77,76,75,74,73,72,71,70,69,68,6]∧pol1.dead 16 22=[79,53]∧pol1.dead 16 23=[84,83,82,81,80,78,28,6]∧pol1.dead 16 24=[86,78,28]∧pol1.dead 16 25=[88,87,85]∧pol1.dead 16 26=[96,95,94,93,92,91,90,89,6]∧pol1.dead 16 27=[109,108,107,106,105,104,103,102,101,100,99,98,97]∧pol1.dead 16 28=[111,110]∧pol1.dead 16 29=[117,116,115,114,113,112,110,7]∧pol1.dead 16 30=[118,4]∧(∀ r,pol1.racts 16 r=[])∧(∀ r,pol1.alts 16 r=none)∧pol1.bdead 16 0=[19,5,3,0]∧pol1.bdead 16 1=[]∧pol1.bdead 16 2=[89,68,51,32,6]:=by and_intros<;>first|kernel_rfl|exact fun r=>rfl
theorem dd17:pol1.dead 17 0=[4]∧pol1.dead 17 1=[]∧pol1.dead 17 2=[]∧pol1.dead 17 3=[14,13,12,11,10,9,8,7]∧pol1.dead 17 4=[17,16]∧pol1.dead 17 5=[26,25,24,23,22,21,20,19,18,15]∧pol1.dead 17 6=[27,5]∧pol1.racts 17 0=[]∧pol1.racts 17 1=[.mat 5 1]∧pol1.racts 17 2=[]∧pol1.racts 17 3=[]∧pol1.racts 17 4=[]∧pol1.racts 17 5=[]∧pol1.racts 17 6=[]∧pol1.bdead 17 0=[15,6,1,0]∧pol1.bdead 17 1=[]:=by and_intros<;>first|kernel_rfl|exact fun r=>rfl
theorem dd18:pol1.dead 18 0=[4]∧pol1.dead 18 1=[5]∧pol1.dead 18 2=[9,8,7,6]∧pol1.dead 18 3=[12,11,10,6,1,0]∧(∀ r,pol1.racts 18 r=[]):=by and_intros<;>first|kernel_rfl|exact fun r=>rfl
theorem dd19:pol1.dead 19 0=[2,0]∧pol1.dead 19 1=[6,5,4]∧pol1.dead 19 2=[7,1]∧pol1.dead 19 3=[20,19,18,17,16,15,14,13,12,11,10,9,8,7]∧pol1.dead 19 4=[21,1]∧pol1.dead 19 5=[23,22,21]∧pol1.dead 19 6=[]∧pol1.dead 19 7=[27,26]∧pol1.dead 19 8=[33,32,31,30,29,28,3]∧pol1.dead 19 9=[34,25,24,1]∧pol1.dead 19 10=[35]∧pol1.dead 19 11=[43,42,41,40,39,38,37,36,1]∧pol1.dead 19 12=[46]∧pol1.dead 19 13=[47]∧pol1.dead 19 14=[48,44]∧pol1.dead 19 15=[45,44]∧pol1.dead 19 16=[]∧(∀ r,pol1.racts 19 r=[])∧(∀ r,pol1.alts 19 r=none)∧pol1.bdead 19 0=[26,25,24]∧pol1.bdead 19 1=[34]∧pol1.bdead 19 2=[45,44]:=by and_intros<;>first|kernel_rfl|exact fun r=>rfl
theorem dd20:pol1.dead 20 0=[8,7,0]∧pol1.dead 20 1=[18,17,16,15,14,13,3]∧pol1.dead 20 2=[19]∧pol1.dead 20 3=[22,21,20,10,9,2,1]∧pol1.dead 20 4=[29,28,27,26,25,24,23,20,10,1]∧pol1.dead 20 5=[31,30,9,2]∧pol1.dead 20 6=[38,37,36,35,34,33,32,30,9,2]∧pol1.dead 20 7=[40,39,12,11]∧(∀ r,pol1.racts 20 r=[]):=by and_intros<;>first|kernel_rfl|exact fun r=>rfl
theorem dd27:pol1.dead 27 0=[2,0]∧pol1.dead 27 1=[7,6]∧pol1.dead 27 2=[8]∧pol1.dead 27 3=[10,9,3,1]∧pol1.dead 27 4=[11,9,3,1]∧pol1.dead 27 5=[]∧pol1.dead 27 6=[17,16,15]∧pol1.dead 27 7=[19,18,5]∧pol1.dead 27 8=[20,14,13,12]∧pol1.dead 27 9=[21]∧pol1.dead 27 10=[]∧(∀ r,pol1.racts 27 r=[])∧pol1.bdead 27 0=[15,14,13,12]∧pol1.bdead 27 1=[20]:=by and_intros<;>first|kernel_rfl|exact fun r=>rfl
theorem dd28:pol1.dead 28 0=[2]∧pol1.dead 28 1=[3]∧pol1.dead 28 2=[4,0]∧pol1.dead 28 3=[7,6,5,4,0]∧(∀ r,pol1.racts 28 r=[]):=by and_intros<;>first|kernel_rfl|exact fun r=>rfl
theorem dd29:pol1.dead 29 0=[2]∧pol1.dead 29 1=[3]∧pol1.dead 29 2=[4,0]∧pol1.dead 29 3=[7,6,5,4,0]∧(∀ r,pol1.racts 29 r=[]):=by and_intros<;>first|kernel_rfl|exact fun r=>rfl
theorem dd30:pol1.dead 30 0=[4,0]∧pol1.dead 30 1=[]∧pol1.dead 30 2=[11,10,9]∧pol1.dead 30 3=[]∧pol1.dead 30 4=[]∧pol1.dead 30 5=[12,7,6,2]∧pol1.dead 30 6=[15,14,13,8,1]∧pol1.dead 30 7=[16,5]∧pol1.racts 30 0=[]∧pol1.racts 30 1=[.matC 5 0 1]∧pol1.racts 30 2=[]∧pol1.racts 30 3=[]∧pol1.racts 30 4=[]∧pol1.racts 30 5=[]∧pol1.racts 30 6=[]∧pol1.racts 30 7=[]:=by and_intros<;>first|kernel_rfl|exact fun r=>rfl
theorem dd31:pol1.dead 31 0=[6]∧pol1.dead 31 1=[]∧pol1.dead 31 2=[15,14,13,12,11,10]∧pol1.dead 31 3=[20,19,18,17,16]∧pol1.dead 31 4=[23,22]∧pol1.dead 31 5=[35,34,33,32,31,30,29,28,27,26,25,24,21]∧pol1.dead 31 6=[43,42,41,40,39,38,37,36,9]∧pol1.dead 31 7=[45,44]∧pol1.dead 31 8=[48,47,46,44]∧pol1.dead 31 9=[56,55,54,53,52,51,50,49]∧pol1.dead 31 10=[57,7]∧(∀ r,pol1.racts 31 r=[])∧(∀ r,pol1.alts 31 r=none)∧pol1.bdead 31 0=[49,21,8,2,1,0]∧pol1.bdead 31 1=[]:=by and_intros<;>first|kernel_rfl|exact fun r=>rfl
theorem dd33:pol1.dead 33 0=[6]∧pol1.dead 33 1=[13,12,11,10,9,8,7]∧pol1.dead 33 2=[14,2,1,0]∧pol1.dead 33 3=[20,19,18,17,16,15,14,2,1,0]∧(∀ r,pol1.racts 33 r=[]):=by and_intros<;>first|kernel_rfl|exact fun r=>rfl
theorem dd34:pol1.dead 34 0=[4,0]∧pol1.dead 34 1=[9]∧pol1.dead 34 2=[10]∧pol1.dead 34 3=[]∧pol1.dead 34 4=[13,12,11]∧pol1.dead 34 5=[16]∧pol1.dead 34 6=[15,14,5,2]∧pol1.dead 34 7=[18,15]∧pol1.dead 34 8=[24,23,22,21,20,19,17,14,5]∧pol1.dead 34 9=[30,29,28,27,26,25]∧pol1.dead 34 10=[39,38,37,36,35,34,33,32,31,2]∧pol1.dead 34 11=[49,48,47,46,45,44,43,42,41,40,8]∧pol1.dead 34 12=[51,17]∧pol1.dead 34 13=[65,64,63,62,61,60,59,58,57,56,55,54,53,52,50,14,5,2]∧pol1.dead 34 14=[75,74,73,72,71,70,69,68,67,66]∧pol1.dead 34 15=[77,50]∧pol1.dead 34 16=[83,82,81,80,79,78,76,14,5,2]∧pol1.dead 34 17=[88,87,86,85,84]∧pol1.dead 34 18=[90,76,5]∧pol1.dead 34 19=[106,105,104,103,102,101,100,99,98,97,96,95,94,93,92,91,89,14,2]∧pol1.dead 34 20=[111,110,109,108,107]∧pol1.dead 34 21=[113,89,14,2]∧pol1.dead 34 22=[125,124,123,122,121,120,119,118,117,116,115,114,112]∧pol1.dead 34 23=[130,129,128,127,126]∧pol1.dead 34 24=[163,162,161,160,159,158,157,156,155,154,153,152,151,150,149,148,147,146,145,144,143,142,141,140,139,138,137,136,135,134,133,132,131,7,6,1]∧(∀ r,pol1.racts 34 r=[])∧(∀ r,pol1.alts 34 r=none)∧pol1.bdead 34 0=[112,40,8]:=by and_intros<;>first|kernel_rfl|exact fun r=>rfl
theorem dd35:pol1.dead 35 0=[5,4,0]∧pol1.dead 35 1=[8,7]∧pol1.dead 35 2=[9]∧pol1.dead 35 3=[11,10,6,2,1]∧pol1.dead 35 4=[13,12,10,6]∧pol1.dead 35 5=[14,2,1]∧pol1.dead 35 6=[22,21,20,19,18,17,16,15,14,2,1]∧(∀ r,pol1.racts 35 r=[])∧(∀ r,pol1.alts 35 r=none):=by and_intros<;>first|kernel_rfl|exact fun r=>rfl
theorem dd36:pol1.dead 36 0=[7,0]∧pol1.dead 36 1=[]∧pol1.dead 36 2=[]∧pol1.dead 36 3=[14,13,12,11,10,3,2,1]∧pol1.dead 36 4=[16,15,9,8]∧(∀ r,pol1.racts 36 r=[])∧(∀ r,pol1.alts 36 r=none):=by and_intros<;>first|kernel_rfl|exact fun r=>rfl
theorem dd40:pol1.dead 40 0=[4]∧pol1.dead 40 1=[]∧pol1.dead 40 2=[8,7,6]∧pol1.dead 40 3=[11,10]∧pol1.dead 40 4=[16,15,14,13,12,9]∧pol1.dead 40 5=[17,5,1,0]∧pol1.dead 40 6=[]∧(∀ r,pol1.racts 40 r=[])∧pol1.bdead 40 0=[9,5,1,0]∧pol1.bdead 40 1=[17]:=by and_intros<;>first|kernel_rfl|exact fun r=>rfl
theorem dd46:pol1.dead 46 0=[0]∧pol1.dead 46 1=[]∧pol1.dead 46 2=[15,14,13]∧pol1.dead 46 3=[21,20,19,18,17,16]∧pol1.dead 46 4=[25,24,23,22]∧pol1.dead 46 5=[29,28,27,26]∧pol1.dead 46 6=[30]∧pol1.dead 46 7=[33]∧pol1.dead 46 8=[34]∧pol1.dead 46 9=[38,37,36,35,32,31,8]∧pol1.dead 46 10=[41,40,39,9]∧pol1.dead 46 11=[43,32]∧pol1.dead 46 12=[48,47,46,45,44,42,31,9,8]∧pol1.dead 46 13=[50,42]∧pol1.dead 46 14=[57,56,55,54,53,52,51,49,31,9,8]∧pol1.dead 46 15=[59,49,31,9]∧pol1.dead 46 16=[64,63,62,61,60,58,8]∧pol1.dead 46 17=[65]∧(∀ r,pol1.racts 46 r=[])∧pol1.bdead 46 0=[13,12,11,10,5,4,3,2,1]∧pol1.bdead 46 1=[22,8]∧pol1.bdead 46 2=[58,8]:=by and_intros<;>first|kernel_rfl|exact fun r=>rfl
theorem dd47:pol1.dead 47 0=[4]∧pol1.dead 47 1=[10,9]∧pol1.dead 47 2=[13,12,11,1,0]∧pol1.dead 47 3=[15,14,11]∧pol1.dead 47 4=[24,23,22,21,20,19,18,17,16]∧pol1.dead 47 5=[7]∧pol1.dead 47 6=[26,25,6,5,1,0]∧pol1.dead 47 7=[35,34,33,32,31,30,29,28,27,25,6]∧pol1.dead 47 8=[40,39,38,37,36]∧pol1.dead 47 9=[47,46,45,44,43,42,41]∧pol1.dead 47 10=[55,54,53,52,51,50,49,48,36,1]∧pol1.dead 47 11=[61,60,59,58,57,56,5]∧pol1.dead 47 12=[68,67,66,65,64,63,62,0]∧pol1.dead 47 13=[69,8]∧(∀ r,pol1.racts 47 r=[])∧(∀ r,pol1.alts 47 r=none):=by and_intros<;>first|kernel_rfl|exact fun r=>rfl
theorem dd48:pol1.dead 48 0=[6]∧pol1.dead 48 1=[18,17,16,15,14,13,12,11,10]∧pol1.dead 48 2=[37,36,35,34,33,32,31,30,29,28,27,26,25,24,23,22,21,20,19,8]∧pol1.dead 48 3=[39,38,7,2,1,0]∧pol1.dead 48 4=[56,55,54,53,52,51,50,49,48,47,46,45,44,43,42,41,40,38,7,0]∧pol1.dead 48 5=[61,60,59,58,57]∧pol1.dead 48 6=[66,65,64,63,62]∧pol1.dead 48 7=[72,71,70,69,68,67,62,2,1]∧pol1.dead 48 8=[73,9]∧(∀ r,pol1.racts 48 r=[])∧(∀ r,pol1.alts 48 r=none):=by and_intros<;>first|kernel_rfl|exact fun r=>rfl
theorem dd51:pol1.dead 51 0=[2]∧pol1.dead 51 1=[9,8,7,6]∧pol1.dead 51 2=[0]∧pol1.dead 51 3=[]∧pol1.dead 51 4=[15,14,13]∧pol1.dead 51 5=[23,22,21,20,19,18,17,16,5]∧pol1.dead 51 6=[24]∧pol1.dead 51 7=[26,25,3]∧(∀ r,pol1.racts 51 r=[])∧pol1.bdead 51 0=[13,12,11,10]∧pol1.bdead 51 1=[]:=by and_intros<;>first|kernel_rfl|exact fun r=>rfl
theorem dd52:pol1.dead 52 0=[6]∧pol1.dead 52 1=[]∧pol1.dead 52 2=[1]∧pol1.dead 52 3=[]∧pol1.dead 52 4=[15,14,13]∧pol1.dead 52 5=[29,28,27,26,25,24,23,22,21,20,19,18,17,16]∧pol1.dead 52 6=[35,34,33,32,31,30,9]∧pol1.dead 52 7=[36]∧pol1.dead 52 8=[37,7]∧pol1.racts 52 0=[]∧pol1.racts 52 1=[.mat 7 1]∧pol1.racts 52 2=[]∧pol1.racts 52 3=[]∧pol1.racts 52 4=[]∧pol1.racts 52 5=[]∧pol1.racts 52 6=[]∧pol1.racts 52 7=[]∧pol1.racts 52 8=[]∧pol1.bdead 52 0=[13,12,11,10,2,0]∧pol1.bdead 52 1=[30,9]:=by and_intros<;>first|kernel_rfl|exact fun r=>rfl
theorem dd53:pol1.dead 53 0=[3]∧pol1.dead 53 1=[12,11,10,9,8,7,6,5,4,1,0]∧(∀ r,pol1.racts 53 r=[]):=by and_intros<;>first|kernel_rfl|exact fun r=>rfl
theorem dd54:pol1.dead 54 0=[2]∧pol1.dead 54 1=[]∧pol1.dead 54 2=[]∧pol1.dead 54 3=[11,10,9,8]∧pol1.dead 54 4=[29,28,27,26,25,24,23,22,21,20,19,18,17,16,15,14,13,12,4,3]∧pol1.dead 54 5=[30,7,6,5,0]∧pol1.dead 54 6=[31]∧pol1.dead 54 7=[33,32,0]∧pol1.dead 54 8=[34]∧pol1.dead 54 9=[34]∧(∀ r,pol1.racts 54 r=[])∧(∀ r,pol1.alts 54 r=none)∧pol1.bdead 54 0=[8,7,6,5]∧pol1.bdead 54 1=[30]:=by and_intros<;>first|kernel_rfl|exact fun r=>rfl
theorem dd55:pol1.dead 55 0=[0]∧pol1.dead 55 1=[22,21,20,19]∧pol1.dead 55 2=[29,28,27,26,25,24,23]∧pol1.dead 55 3=[30]∧pol1.dead 55 4=[]∧pol1.dead 55 5=[34,33]∧pol1.dead 55 6=[37,36,35,9]∧pol1.dead 55 7=[38]∧pol1.dead 55 8=[]∧pol1.dead 55 9=[]∧pol1.dead 55 10=[]∧pol1.dead 55 11=[39]∧pol1.dead 55 12=[41,40]∧pol1.dead 55 13=[47,46,45,44,43,42]∧pol1.dead 55 14=[53,52,51,50,49,48]∧pol1.dead 55 15=[57,56,55,54,48]∧pol1.dead 55 16=[68,67,66,65,64,63,62,61,60,59,58]∧pol1.dead 55 17=[84,83,82,81,80,79,78,77,76,75,74,73,72,71,70,69,15]∧pol1.dead 55 18=[88,87,86,85]∧pol1.dead 55 19=[]∧pol1.dead 55 20=[]∧pol1.dead 55 21=[94,93,92]∧pol1.dead 55 22=[103,102,101,100,99,98,97,96,95]∧pol1.dead 55 23=[117,116,115,114,113,112,111,110,109,108,107,106,105,104,18]∧pol1.dead 55 24=[129,128,127,126,125,124,123,122,121,120,119,118,17]∧pol1.dead 55 25=[130]∧pol1.racts 55 0=[]∧pol1.racts 55 1=[]∧pol1.racts 55 2=[]∧pol1.racts 55 3=[]∧pol1.racts 55 4=[]∧pol1.racts 55 5=[]∧pol1.racts 55 6=[]∧pol1.racts 55 7=[]∧pol1.racts 55 8=[.frz 8,.matC 10 0 3,.mat 11 3]∧pol1.racts 55 9=[]∧pol1.racts 55 10=[]∧pol1.racts 55 11=[]∧pol1.racts 55 12=[]∧pol1.racts 55 13=[]∧pol1.racts 55 14=[]∧pol1.racts 55 15=[]∧pol1.racts 55 16=[]∧pol1.racts 55 17=[]∧pol1.racts 55 18=[]∧pol1.racts 55 19=[]∧pol1.racts 55 20=[]∧pol1.racts 55 21=[]∧pol1.racts 55 22=[]∧pol1.racts 55 23=[]∧pol1.racts 55 24=[]∧pol1.racts 55 25=[]∧(∀ r,pol1.alts 55 r=none)∧pol1.bdead 55 0=[33,32,31]∧pol1.bdead 55 1=[]∧pol1.bdead 55 3=[]∧pol1.bdead 55 4=[92,91,90,89]∧pol1.bdead 55 5=[118,17]:=by and_intros<;>first|kernel_rfl|exact fun r=>rfl
theorem dd56:pol1.dead 56 0=[7]∧pol1.dead 56 1=[13,12]∧pol1.dead 56 2=[14,4,3,2,1,0]∧pol1.dead 56 3=[20,19,18,17,16,15,14,1]∧pol1.dead 56 4=[30,29,28,27,26,25,24,23,22,21]∧pol1.dead 56 5=[31,8,4,3,2,0]∧pol1.dead 56 6=[31,3]∧pol1.dead 56 7=[43,42,41,40,39,38,37,36,35,34,33,32,2,0]∧pol1.dead 56 8=[45,44]∧pol1.dead 56 9=[]∧pol1.dead 56 10=[49,48]∧pol1.dead 56 11=[62,61,60,59,58,57,56,55,54,53,52,51,50]∧pol1.dead 56 12=[67,66,65,64,63]∧pol1.dead 56 13=[68]∧pol1.dead 56 14=[75,74,73,72,71,70,69,68,11,10,9]∧pol1.dead 56 15=[76]∧pol1.dead 56 16=[4]∧pol1.racts 56 0=[]∧pol1.racts 56 1=[]∧pol1.racts 56 2=[]∧pol1.racts 56 3=[]∧pol1.racts 56 4=[]∧pol1.racts 56 5=[]∧pol1.racts 56 6=[]∧pol1.racts 56 7=[]∧pol1.racts 56 8=[]∧pol1.racts 56 9=[]∧pol1.racts 56 10=[]∧pol1.racts 56 11=[]∧pol1.racts 56 12=[]∧pol1.racts 56 13=[]∧pol1.racts 56 14=[]∧pol1.racts 56 15=[]∧pol1.racts 56 16=[.frzC 4]∧(∀ r,pol1.alts 56 r=none)∧pol1.bdead 56 0=[48,47,46,8]∧pol1.bdead 56 1=[]:=by and_intros<;>first|kernel_rfl|exact fun r=>rfl
theorem dd65:pol1.dead 65 0=[4]∧pol1.dead 65 1=[0]∧pol1.dead 65 2=[]∧pol1.dead 65 3=[12,11,10]∧pol1.dead 65 4=[21,20,19,18,17,16,15,14,13,6]∧pol1.dead 65 5=[22,9,8,7,1]∧pol1.dead 65 6=[23]∧pol1.dead 65 7=[]∧(∀ r,pol1.racts 65 r=[])∧pol1.bdead 65 0=[10,9,8,7,1]∧pol1.bdead 65 1=[22]:=by and_intros<;>first|kernel_rfl|exact fun r=>rfl
theorem dd66:pol1.dead 66 0=[2,0]∧pol1.dead 66 1=[17,16,15,14,13,12,11,10,9,8,7,6,5,4,3,1]∧(∀ r,pol1.racts 66 r=[]):=by and_intros<;>first|kernel_rfl|exact fun r=>rfl
theorem dd67:pol1.dead 67 0=[25,24,23,22,21,20,19,18,17,16,15,14]∧pol1.dead 67 1=[34,33,32,31,30,29,28,27,26]∧pol1.dead 67 2=[42,41,40,39,38,37,36,35]∧pol1.dead 67 3=[43]∧pol1.dead 67 4=[46]∧pol1.dead 67 5=[47]∧pol1.dead 67 6=[54,53,52,51,50,49,48,45,44,7,6,5,3,2,1,0]∧pol1.dead 67 7=[57,56,55,12,4]∧pol1.dead 67 8=[59,45,6,4]∧pol1.dead 67 9=[66,65,64,63,62,61,60,58,44,5,0]∧pol1.dead 67 10=[73,72,71,70,69,68,67,12,7,3,2,1]∧pol1.dead 67 11=[75,58]∧pol1.dead 67 12=[82,81,80,79,78,77,76,74,44,12,7,5,3,2,1,0]∧pol1.dead 67 13=[84,74]∧pol1.dead 67 14=[93,92,91,90,89,88,87,86,85,83,44,5]∧pol1.dead 67 15=[106,105,104,103,102,101,100,99,98,97,96,95,94,13,12,7,3,2,1,0]∧pol1.dead 67 16=[108,83,44]∧pol1.dead 67 17=[115,114,113,112,111,110,109,107,12,5]∧pol1.dead 67 18=[123,122,121,120,119,118,117,116,7,3,2,1,0]∧(∀ r,pol1.racts 67 r=[])∧(∀ r,pol1.alts 67 r=none)∧pol1.bdead 67 0=[116,107,12,7,5,3,2,1,0]:=by and_intros<;>first|kernel_rfl|exact fun r=>rfl
theorem dd69:pol1.dead 69 0=[4]∧pol1.dead 69 1=[0]∧pol1.dead 69 2=[]∧pol1.dead 69 3=[12,11,10]∧pol1.dead 69 4=[21,20,19,18,17,16,15,14,13,6]∧pol1.dead 69 5=[22,9,8,7,1]∧pol1.dead 69 6=[23]∧pol1.dead 69 7=[]∧(∀ r,pol1.racts 69 r=[])∧pol1.bdead 69 0=[10,9,8,7,1]∧pol1.bdead 69 1=[22]:=by and_intros<;>first|kernel_rfl|exact fun r=>rfl
theorem mu4:pol1.muts 4=[]:=rfl
theorem mu9:pol1.muts 9=[]:=rfl
theorem mu10:pol1.muts 10=[]:=rfl
theorem mu13:pol1.muts 13=[]:=rfl
theorem mu15:pol1.muts 15=[]:=rfl
theorem mu16:pol1.muts 16=[]:=rfl
theorem mu17:pol1.muts 17=[]:=rfl
theorem mu18:pol1.muts 18=[]:=rfl
theorem mu19:pol1.muts 19=[]:=rfl
theorem mu20:pol1.muts 20=[]:=rfl
theorem mu27:pol1.muts 27=[]:=rfl
theorem mu28:pol1.muts 28=[]:=rfl
theorem mu29:pol1.muts 29=[]:=rfl
theorem mu30:pol1.muts 30=[]:=rfl
theorem mu31:pol1.muts 31=[]:=rfl
theorem mu33:pol1.muts 33=[]:=rfl
theorem mu34:pol1.muts 34=[]:=rfl
theorem mu35:pol1.muts 35=[]:=rfl
theorem mu36:pol1.muts 36=[]:=rfl
theorem mu40:pol1.muts 40=[]:=rfl
theorem mu46:pol1.muts 46=[]:=rfl
theorem mu47:pol1.muts 47=[]:=rfl
theorem mu48:pol1.muts 48=[]:=rfl
theorem mu51:pol1.muts 51=[]:=rfl
theorem mu52:pol1.muts 52=[]:=rfl
theorem mu53:pol1.muts 53=[]:=rfl
theorem mu54:pol1.muts 54=[]:=rfl
theorem mu55:pol1.muts 55=[]:=rfl
theorem mu56:pol1.muts 56=[3000000]:=rfl
theorem mu65:pol1.muts 65=[]:=rfl
theorem mu66:pol1.muts 66=[]:=rfl
theorem mu67:pol1.muts 67=[]:=rfl
theorem mu69:pol1.muts 69=[]:=rfl
end Go.Ev
