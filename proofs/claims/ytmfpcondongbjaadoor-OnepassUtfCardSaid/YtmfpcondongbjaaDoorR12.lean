/- Functions of the program, each with what it computes; no further conditions. -/
import Derived.Test.YtmfpcondongbjaaDoorR07
import Derived.Test.YtmfpcondongbjaaDoorR08
import Derived.Test.YtmfpcondongbjaaDoorR09
import Derived.Test.YtmfpcondongbjaaDoorR11
import Derived.Test.YtmfpcondongbjaaDoorR10
import Derived.IntWalk
set_option linter.unusedVariables false
set_option linter.unusedSimpArgs false
namespace Go.Ev
open Go.Proofs Go.RowKit Go.IntWalk
def mk3:List (Nat×(List Nat×Option Nat)):=[(6,([9,8,7,2,1],none))]
def be3:List (List Nat):=[[35,9],[]]
def de3:List (List Nat):=[[6],[26,25,0],[28,27],[30,29,7,2,1],[31,29],[],[34,33,32],[37,36],[47,46,45,44,43,42,41,40,39,38,35],[52,51,50,49,48,11],[57,56,55,54,53,10],[63,62,61,60,59,58,8],[68,67,66,65,64,14],[96,95,94,93,92,91,90,89,88,87,86,85,84,83,82,81,80,79,78,77,76,75,74,73,72,71,70,69,17,15,13],[97,16,12,7,2,1],[104,103,102,101,100,99,98,97],[108,107,106,105,1],[112,111,110,109],[119,118,117,116,115,114,113,16,12],[156,155,154,153,152,151,150,149,148,147,146,145,144,143,142,141,140,139,138,137,136,135,134,133,132,131,130,129,128,127,126,125,124,123,122,121,120,24,23,22,21,20,19,18,7,2]]
def mk4:List (Nat×(List Nat×Option Nat)):=[(3,([8,7,2,1,0],some 1))]
def be4:List (List Nat):=[[19,8,2,1,0],[]]
def de4:List (List Nat):=[[6],[],[],[18,17,16,15,14,13,12,11],[21,20],[26,25,24,23,22,19],[31,30,29,28,27],[37,36,35,34,33,32],[44,43,42,41,40,39,38,9],[48,47,46,45,38,10,9],[49,7]]
def de5:List (List Nat):=[[0],[24,23,22,21,20],[29,28,27,26,25],[35,34,33,32,31,30],[66,65,64,63,62,61,60,59,58,57,56,55,54,53,52,51,50,49,48,47,46,45,44,43,42,41,40,39,38,37,36,7,6,5,4,3,2],[67,1],[74,73,72,71,70,69,68,67],[81,80,79,78,77,76,75,11,1],[88,87,86,85,84,83,82],[97,96,95,94,93,92,91,90,89,16,14],[103,102,101,100,99,98,15],[133,132,131,130,129,128,127,126,125,124,123,122,121,120,119,118,117,116,115,114,113,112,111,110,109,108,107,106,105,104,19,18,17,13,12,10,9,8]]
def de6:List (List Nat):=[[],[7,6,5,4,3,0]]
def mk7:List (Nat×(List Nat×Option Nat)):=[(6,([8,7,1,0],some 1))]
def be7:List (List Nat):=[[18,8,1,0],[]]
def de7:List (List Nat):=[[5,4],[11,10,9],[12],[14,13,6,1,0],[13,6],[],[17,16,15],[20,19],[28,27,26,25,24,23,22,21,18],[29,7]]
def mk8:List (Nat×(List Nat×Option Nat)):=[(5,([7,6,5,4],none))]
def be8:List (List Nat):=[[11],[18,8,6]]
def de8:List (List Nat):=[[],[],[],[10,9,1,0],[12],[13],[14,8,7,6,5,4],[16,15,14,5,4],[17,7],[22,21,20,19,18,8,6],[23,7],[24,6],[25,24,6]]
def de9:List (List Nat):=[[3,0],[6,5],[7],[10,9,8,4,1],[12,11,8,4],[14,13,1],[17,16,15,13],[19,18,1],[29,28,27,26,25,24,23,22,21,20,18,1]]
def mk10:List (Nat×(List Nat×Option Nat)):=[(9,([26,25,7,5,1],none))]
def be10:List (List Nat):=[[27,26,25],[]]
def de10:List (List Nat):=[[3,2,0],[10,9],[11],[13,12,4,1],[19,18,17,16,15,14,12,4],[6],[20,5,1],[23,22,21,20],[24],[],[28,27],[38,37,36,35,34,33,32,31,30,29,8],[39],[46,45,44,43,42,41,40,7,5,1]]
def de11:List (List Nat):=[[2],[6,5,4,3,0]]
def mk12:List (Nat×(List Nat×Option Nat)):=[(15,([14,13,12,11,9,6,2,1,0],some 3)),(7,([32,9,6,2,1,0],none))]
def be12:List (List Nat):=[[33,32],[],[40,14,13,9,2,1,0],[]]
def de12:List (List Nat):=[[8,7],[20,19],[22,21,2,1,0],[29,28,27,26,25,24,23,21],[31,30,2,1,0],[30],[],[],[34,33],[36,35,10],[37],[],[],[38],[],[39],[42,41],[52,51,50,49,48,47,46,45,44,43,40,14],[17],[61,60,59,58,57,56,55,54,53,18],[65,64,63,62,53,18,16],[66,15],[68,67,12,11]]
def de13:List (List Nat):=[[4],[5],[9,8,7,6],[12,11,10,6,1,0]]
def de14:List (List Nat):=[[],[8,7,6],[18,17,16,15,14,13,12,11,10,9,5,3,0],[19,4]]
def mk15:List (Nat×(List Nat×Option Nat)):=[(9,([9,8,6],some 2))]
def be15:List (List Nat):=[[31,9,6],[]]
def de15:List (List Nat):=[[4,3,2,0],[11,10],[12],[14,13,5,1],[20,19,18,17,16,15,13,5,1],[21,7],[22,6],[22],[25,24,23],[30,29,28,27,26],[36,35,34,33,32],[44,43,42,41,40,39,38,37,31],[46,45],[47,8]]
def mk16:List (Nat×(List Nat×Option Nat)):=[(4,([5,1,0],none))]
def be16:List (List Nat):=[[14,5,1,0],[25]]
def de16:List (List Nat):=[[4],[9,8,7,6],[10,1,0],[10],[13,12,11],[16,15],[24,23,22,21,20,19,18,17,14],[25,5,1,0],[]]
def mk17:List (Nat×(List Nat×Option Nat)):=[(4,([5,1,0],none))]
def be17:List (List Nat):=[[13,5,1,0],[23]]
def de17:List (List Nat):=[[4],[8,7],[9,1,0],[9],[12,11,10],[15,14],[21,20,19,18,17,16,13],[22,6],[23,5,1,0],[]]
def de18:List (List Nat):=[[4],[9,8,7,6,5,1],[13,12,11,10,0],[14,10],[24,23,22,21,20,19,18,17,16,15,0],[25,15],[40,39,38,37,36,35,34,33,32,31,30,29,28,27,26,0],[59,58,57,56,55,54,53,52,51,50,49,48,47,46,45,44,43,42,41,26,0]]
def de19:List (List Nat):=[[4,1,0],[5,3,2]]
def de20:List (List Nat):=[[2,0],[],[14,13,12,11,10,9,8,7],[17,16,15],[],[18,5,3],[21,20,19,6,1],[22,4],[23,22,4],[24],[24]]
def mk21:List (Nat×(List Nat×Option Nat)):=[(16,([52,51,1,0],none))]
def be21:List (List Nat):=[[31,10,9],[53,52,51,1,0],[63]]
def de21:List (List Nat):=[[4],[8,7,6],[32,1,0],[11],[12],[13],[14],[15],[17,10],[30,29,28,27,26,25,24,23,22,21,20,19,18,16,9],[31,1,0],[33,16,9],[38,37,36,35,34,32],[39,1,0],[46,45,44,43,42,41,40,39],[50,49,48,47],[],[54,53],[62,61,60,59,58,57,56,55,5],[63,52,51,1,0],[64],[]]
def mk22:List (Nat×(List Nat×Option Nat)):=[(3,([11,10,3,0],none))]
def be22:List (List Nat):=[[12,11,10],[],[48,3,0]]
def de22:List (List Nat):=[[2],[],[9,8,7,6],[],[13,12],[23,22,21,20,19,18,17,16,15,14,4],[24],[25],[28,27,26],[31],[32],[30,29,3,0],[34,30],[43,42,41,40,39,38,37,36,35,33,29,3,0],[45,33],[47,46,44,29,3,0],[49,44,29],[55,54,53,52,51,50,48],[59,58,57,56],[64,63,62,61,60,3,0],[78,77,76,75,74,73,72,71,70,69,68,67,66,65,60,3,0],[80,79,5]]
def de23:List (List Nat):=[[2],[],[8],[],[9],[10],[11,7,6,4],[14,13,12,5,0],[15,3]]
def de24:List (List Nat):=[[2,0],[5,4],[6],[8,7,3,1],[10,9,7,3,1],[11],[11]]
def mk25:List (Nat×(List Nat×Option Nat)):=[(10,([38,37,36,6,5,4,0],some 2)),(4,([6,5,4,0],some 2))]
def be25:List (List Nat):=[[18,6,5,0],[],[39,38,37,36],[46,10]]
def de25:List (List Nat):=[[3,2],[12,11],[14,13],[],[17,16,15],[20,19],[30,29,28,27,26,25,24,23,22,21,18],[8],[35,34,33,32,31,7,6,5,4,0],[31,7],[],[41,40,39],[45,44,43,42],[49,48,47,46],[64,63,62,61,60,59,58,57,56,55,54,53,52,51,50,10],[65],[66,4]]
def de26:List (List Nat):=[[2],[3],[4,0],[7,6,5,4,0]]
def de27:List (List Nat):=[[2],[3],[4,0],[7,6,5,4,0]]
def mk28:List (Nat×(List Nat×Option Nat)):=[(5,([11,10,9,8,7,6,4],none))]
def be28:List (List Nat):=[[19,7,6,4],[52,13,12,9,8]]
def de28:List (List Nat):=[[3,2,0],[],[18,17,16,15,14,1],[20],[21],[29,28,27,26,25,24,23,22],[33,32,31,30,13,12,11,10,9,8,7,6,4],[51,50,49,48,47,46,45,44,43,42,41,40,39,38,37,36,35,34,30,11,10,7,6,4],[55,54,53,52,13,12,9,8],[58,57,56]]
def mk29:List (Nat×(List Nat×Option Nat)):=[(3,([22,21,9,8,7],some 4))]
def be29:List (List Nat):=[[23,22,21,7],[42,10]]
def de29:List (List Nat):=[[3],[18,17,16,15,14,13,12,11,2,1,0],[20,19],[],[24,23],[29,28,27,26,25],[41,40,39,38,37,36,35,34,33,32,31,30],[56,55,54,53,52,51,50,49,48,47,46,45,44,43,42,10],[57],[58,9]]
def mk30:List (Nat×(List Nat×Option Nat)):=[(2,([10,9,6,3,2],none))]
def be30:List (List Nat):=[[11,10,9,2],[14,7]]
def de30:List (List Nat):=[[1,0],[4],[],[13,12,11],[8],[17,16,15,14,7],[18],[19,3]]
def mk31:List (Nat×(List Nat×Option Nat)):=[(1,([3,2,0],none))]
def be31:List (List Nat):=[[9,3,2,0],[]]
def de31:List (List Nat):=[[6,5,4],[8,7],[13,12,11,10],[27,26,25,24,23,22,21,20,19,18,17,16,15,14,9]]
def de32:List (List Nat):=[[4],[5,1],[12,11,10,9,8,7,6,0],[26,25,24,23,22,21,20,19,18,17,16,15,14,13,6,0]]
def mk33:List (Nat×(List Nat×Option Nat)):=[(1,([4,2,1,0],none))]
def be33:List (List Nat):=[[10,4,2,1,0],[]]
def de33:List (List Nat):=[[],[9,8,7],[15,14,13,12,11,10],[],[23,22,21,20,19,18,17,16],[24,16],[27,26,25,6,5,4,2,1,0],[30,29,28,25,5],[34,33,32,31,6]]
def mk34:List (Nat×(List Nat×Option Nat)):=[(10,([50,49,48,7,6],some 1)),(3,([15,14,4,0],some 0))]
def be34:List (List Nat):=[[16,15,14,4,0],[34,6],[51,50,49,48],[]]
def de34:List (List Nat):=[[3,2],[13,12,11,10],[],[],[17,16],[33,32,31,30,29,28,27,26,25,24,23,22,21,20,19,18],[38,37,36,35,34,15,14],[39,6,4,0],[43,42,41,40,39,4],[47,46,45,44,0],[],[53,52,51],[58,57,56,55,54],[59,50,49,48,9,7,6],[65,64,63,62,61,60,59,9],[66],[79,78,77,76,75,74,73,72,71,70,69,68,67],[80,7,6],[84,83,82,81,80,7,6],[85],[]]
def de35:List (List Nat):=[[2],[0],[3],[3]]
def mk36:List (Nat×(List Nat×Option Nat)):=[(6,([32,31,6,1,0],none))]
def be36:List (List Nat):=[[33,32,31,6,1,0],[45]]
def de36:List (List Nat):=[[9],[12,11],[17,16,15,14,13,2],[18,6,5,4,3,1,0],[26,25,24,23,22,21,20,19,18,5,4,3],[30,29,28,27],[],[34,33],[44,43,42,41,40,39,38,37,36,35,10],[45,32,31,6,1,0],[46],[]]
def be37:List (List Nat):=[[104,7,0]]
def de37:List (List Nat):=[[6],[15,14,13,12,11],[28,27,26,25,24,23,22,21,20,19,18,17,16,1],[31,30,29],[32],[],[35,34,33],[38],[40,39,37,36,8,7,2,0],[42,37],[52,51,50,49,48,47,46,45,44,43,41,36,8,7,2,0],[53],[55,41,2],[56],[58,57,54,36,8,7,0],[60,54],[66,65,64,63,62,61,59,36,8,7,0],[69,68,67],[71,59],[76,75,74,73,72,70,36,8,7,0],[77],[79,70],[84,83,82,81,80,78,36,8,7,0],[85],[87,78],[88],[90,89,86,36,8,7,0],[91],[93,86],[95,94,92,36,8,7,0],[97,92],[102,101,100,99,98,96,36,8,7,0],[103],[105,96,36,8],[121,120,119,118,117,116,115,114,113,112,111,110,109,108,107,106,104,7,0],[122],[154,153,152,151,150,149,148,147,146,145,144,143,142,141,140,139,138,137,136,135,134,133,132,131,130,129,128,127,126,125,124,123,10,9]]
def de38:List (List Nat):=[[2,0],[],[4],[6,5,3,1]]
def de39:List (List Nat):=[[4],[8,7,6,5,1,0]]
def de40:List (List Nat):=[[3,0],[7,6,5,4,2],[10,9,8,1]]
def mk41:List (Nat×(List Nat×Option Nat)):=[(16,([67,66,65,3,0],none)),(9,([38,37,6,3,2,1,0],none)),(1,([13,12,3,2,1,0],none))]
def be41:List (List Nat):=[[14,13,12],[],[39,38,37,1],[],[68,67,66,65,3,0],[]]
def de41:List (List Nat):=[[11,10,9],[],[21,20,19,18,17,16,15,14],[22],[31,30,29,28,27,26,25,24,23],[35,34,33,32],[36],[36],[5],[],[45,44,43,42,41,40,39],[52,51,50,49,48,47,46],[53],[57,56,55,54],[64,63,62,61,60,59,58,2],[58,6,2],[],[70,69,68],[82,81,80,79,78,77,76,75,74,73,72,71,8],[83]]
def de42:List (List Nat):=[[],[7,2],[11,10,9,8,1,0],[14,13,12,8,1,0]]
def mk43:List (Nat×(List Nat×Option Nat)):=[(11,([51,50,49,3],none)),(2,([16,15,5,3,2,1,0],none))]
def be43:List (List Nat):=[[17,16,15,1],[],[52,51,50,49,3],[]]
def de43:List (List Nat):=[[],[14,13,12,11,10],[],[18,17],[21,20,19],[26,25,24,23,22,6],[32,31,30,29,28,27],[40,39,38,37,36,35,34,33,7],[41],[48,47,46,45,44,43,42,2,0],[5],[],[54,53,52],[60,59,58,57,56,55,9],[61]]
def mk44:List (Nat×(List Nat×Option Nat)):=[(7,([37,36,2,0],none))]
def be44:List (List Nat):=[[84,4,0],[38,37,36,2,0],[]]
def de44:List (List Nat):=[[9,8,7],[12],[20,19,18,17,16,15,14,13,11,10,4,3,2,1,0],[22,11],[29,28,27,26,25,24,23,21,10,4,3,2,1,0],[31,21],[35,34,33,32,30,10,4,3,1],[],[39,38],[47,46,45,44,43,42,41,40,6],[48],[50,30],[56,55,54,53,52,51,49,10,4,3,2,1,0],[58,49,3],[67,66,65,64,63,62,61,60,59,57,10,4],[74,73,72,71,70,69,68,2],[83,82,81,80,79,78,77,76,75,1,0],[85,57,10,2,1],[88,87,86,84,4,0]]
def mk45:List (Nat×(List Nat×Option Nat)):=[(6,([25,24,1],none))]
def be45:List (List Nat):=[[26,25,24],[34],[45,44]]
def de45:List (List Nat):=[[2,0],[6,5,4],[7,1],[20,19,18,17,16,15,14,13,12,11,10,9,8,7],[21,1],[23,22,21],[],[27,26],[33,32,31,30,29,28,3],[34,25,24,1],[35],[43,42,41,40,39,38,37,36,1],[46],[47],[48,44],[45,44],[]]
def de46:List (List Nat):=[[4],[8,7,6,5,1,0]]
def de47:List (List Nat):=[[2,0],[5,4,3,1]]
def mk48:List (Nat×(List Nat×Option Nat)):=[(18,([13,10,9,2],none)),(9,([11,10,9,2],none))]
def be48:List (List Nat):=[[21],[38,12,10,9,2],[60,13,10],[74]]
def de48:List (List Nat):=[[5,4,0],[16,15,14],[],[17,6],[],[],[],[20,19,18,8,1],[23,22],[28,27,26,25,24],[31,30,29,12,11,10,9,2],[37,36,35,34,33,32,29,11],[42,41,40,39,38,9],[49,48,47,46,45,44,43,12,10,2],[53,52,51,50,11,7],[54,10,9,2],[56,55,54],[],[59,58,57],[62,61],[73,72,71,70,69,68,67,66,65,64,63,60],[74,13,10,9,2],[77,76,75,2],[78,9]]
def de49:List (List Nat):=[[6,2,1,0],[7,5,4,3]]
def de50:List (List Nat):=[[2,0],[]]
def mk51:List (Nat×(List Nat×Option Nat)):=[(2,([9,8,7,1],some 0))]
def be51:List (List Nat):=[[10,9,8,7,1],[22]]
def de51:List (List Nat):=[[4],[0],[],[12,11,10],[21,20,19,18,17,16,15,14,13,6],[22,9,8,7,1],[23],[]]
def de52:List (List Nat):=[[2],[8,7,6,5,4,3,0]]
def mk53:List (Nat×(List Nat×Option Nat)):=[(4,([12,11,10,1,0],some 0))]
def be53:List (List Nat):=[[13,12,11,10,1,0],[48]]
def de53:List (List Nat):=[[4],[8,7],[9,1,0],[9],[],[16,15,14,13],[47,46,45,44,43,42,41,40,39,38,37,36,35,34,33,32,31,30,29,28,27,26,25,24,23,22,21,20,19,18,17,6,5],[48,12,11,10,1,0],[49],[]]
def de54:List (List Nat):=[[2],[27,26,25,24,23,22,21,20,19,18,17,16,15,14,13,12,11,10,9,8,7,6,5,4,3],[28,0],[58,57,56,55,54,53,52,51,50,49,48,47,46,45,44,43,42,41,40,39,38,37,36,35,34,33,32,31,30,29,28,0]]
def mk55:List (Nat×(List Nat×Option Nat)):=[(25,([53,52,1,0],none)),(11,([23,22,1,0],none))]
def be55:List (List Nat):=[[43,42,9],[24,23,22,1,0],[34],[54,53,52,1,0],[63]]
def de55:List (List Nat):=[[3],[8,7,6],[43,9,1,0],[11],[12],[13],[14],[15],[10,9,1,0],[17,10],[21,20,19,18,16,9],[],[25,24],[33,32,31,30,29,28,27,26,4],[34,23,22,1,0],[35],[],[37,16],[41,40,39,38,36,9],[42,1,0],[44,36],[45],[46],[47,9],[51,50,49,48],[],[55,54],[62,61,60,59,58,57,56,5],[63,53,52,1,0],[64],[]]
def mk56:List (Nat×(List Nat×Option Nat)):=[(2,([8,7,1,0],none))]
def be56:List (List Nat):=[[9,8,7,1,0],[16,5]]
def de56:List (List Nat):=[[4],[6],[],[10,9],[15,14,13,12,11],[17,16,8,7,5,1,0],[18],[]]
def be57:List (List Nat):=[[112,40,8]]
def de57:List (List Nat):=[[4,0],[9],[10],[],[13,12,11],[16],[15,14,5,2],[18,15],[24,23,22,21,20,19,17,14,5],[30,29,28,27,26,25],[39,38,37,36,35,34,33,32,31,2],[49,48,47,46,45,44,43,42,41,40,8],[51,17],[65,64,63,62,61,60,59,58,57,56,55,54,53,52,50,14,5,2],[75,74,73,72,71,70,69,68,67,66],[77,50],[83,82,81,80,79,78,76,14,5,2],[88,87,86,85,84],[90,76,5],[106,105,104,103,102,101,100,99,98,97,96,95,94,93,92,91,89,14,2],[111,110,109,108,107],[113,89,14,2],[125,124,123,122,121,120,119,118,117,116,115,114,112],[130,129,128,127,126],[163,162,161,160,159,158,157,156,155,154,153,152,151,150,149,148,147,146,145,144,143,142,141,140,139,138,137,136,135,134,133,132,131,7,6,1]]
def mk58:List (Nat×(List Nat×Option Nat)):=[(2,([8,7,1,0],none))]
def be58:List (List Nat):=[[9,8,7,1,0],[16,5]]
def de58:List (List Nat):=[[4],[6],[],[10,9],[15,14,13,12,11],[17,16,8,7,5,1,0],[18],[]]
def de59:List (List Nat):=[[4],[11,10,9,8,7,6,5],[14,13,12,2,0],[16,15,1]]
def de60:List (List Nat):=[[6,5],[13,12,11,10,9,8,7,4,1,0]]
def de61:List (List Nat):=[[4,1,0],[9,8,7,6,5,3,2]]
def de62:List (List Nat):=[[4],[8,7],[10,9],[5],[11,6,1,0],[12],[12],[11,6],[13,1,0],[15,14,13],[16,1,0],[18,17,16,1,0],[19],[19]]
def de63:List (List Nat):=[[6,5],[13,12,11,10,9,8,7,4,1,0]]
def de64:List (List Nat):=[[5],[22,21,20,19,18,17,16,15,14,13,12,11,10,9,8,7,6,2,1,0]]
def mk65:List (Nat×(List Nat×Option Nat)):=[(1,([5,3,2,0],some 1001))]
def be65:List (List Nat):=[[13,5,3,2,0],[],[86,77,36,6]]
def de65:List (List Nat):=[[10,9,8,1],[12,11],[19,18,17,16,15,14,13],[24,23,22,21,20],[28,27,26,25],[34,33,32,31,30,29],[35],[38],[51,50,49,48,47,46,45,44,43,42,41,40,39,37,36,7,6],[53,37],[61,60,59,58,57,56,55,54,52,36,7,6],[63,52],[67,66,65,64,62,36,7],[76,75,74,73,72,71,70,69,68,6],[78,62,7],[79,36],[85,84,83,82,81,80,77,36,6]]
def de66:List (List Nat):=[[3],[12,11,10,9,8,7,6,5,4,1,0]]
def mk67:List (Nat×(List Nat×Option Nat)):=[(2,([7,6,5,0],some 0))]
def be67:List (List Nat):=[[8,7,6,5],[30]]
def de67:List (List Nat):=[[2],[],[],[11,10,9,8],[29,28,27,26,25,24,23,22,21,20,19,18,17,16,15,14,13,12,4,3],[30,7,6,5,0],[31],[33,32,0],[34],[34]]
def de70:List (List Nat):=[[2],[5,4,3,0]]
def de72:List (List Nat):=[[2,0],[17,16,15,14,13,12,11,10,9,8,7,6,5,4,3,1]]
def mkTab:List (List (Nat×(List Nat×Option Nat))):=[[],[],[],mk3,mk4,[],[],mk7,mk8,[],mk10,[],mk12,[],[],mk15,mk16,mk17,[],[],[],mk21,mk22,[],[],mk25,[],[],mk28,mk29,mk30,mk31,[],mk33,mk34,[],mk36,[],[],[],[],mk41,[],mk43,mk44,mk45,[],[],mk48,[],[],mk51,[],mk53,[],mk55,mk56,[],mk58,[],[],[],[],[],[],mk65,[],mk67,[],[],[],[],[],[],[],[],[],[],[],[],[],[],[],[],[],[],[],[],[],[],[],[],[],[],[],[],[],[],[],[],[],[],[],[],[],[],[],[],[],[],[],[],[],[],[],[],[],[],[],[],[]]
def deTab:List (List (List Nat)):=[[],[],[],de3,de4,de5,de6,de7,de8,de9,de10,de11,de12,de13,de14,de15,de16,de17,de18,de19,de20,de21,de22,de23,de24,de25,de26,de27,de28,de29,de30,de31,de32,de33,de34,de35,de36,de37,de38,de39,de40,de41,de42,de43,de44,de45,de46,de47,de48,de49,de50,de51,de52,de53,de54,de55,de56,de57,de58,de59,de60,de61,de62,de63,de64,de65,de66,de67,[],[],de70,[],de72,[],[],[],[],[],[],[],[],[],[],[],[],[],[],[],[],[],[],[],[],[],[],[],[],[],[],[],[],[],[],[],[],[],[],[],[],[],[],[],[],[],[],[],[],[],[],[],[]]
def beTab:List (List (List Nat)):=[[],[],[],be3,be4,[],[],be7,be8,[],be10,[],be12,[],[],be15,be16,be17,[],[],[],be21,be22,[],[],be25,[],[],be28,be29,be30,be31,[],be33,be34,[],be36,be37,[],[],[],be41,[],be43,be44,be45,[],[],be48,[],[],be51,[],be53,[],be55,be56,be57,be58,[],[],[],[],[],[],be65,[],be67,[],[],[],[],[],[],[],[],[],[],[],[],[],[],[],[],[],[],[],[],[],[],[],[],[],[],[],[],[],[],[],[],[],[],[],[],[],[],[],[],[],[],[],[],[],[],[],[],[],[],[],[],[]]
def notPure:List Nat:=[33,36,40,41,43,44,55,59,64,65,66,1000000000,49,60,63,31,27,26,19,8]
def ownT:List Nat:=[23]
def keepT1:List Nat:=[49,19,8]
def capT:List (Nat×Nat):=[(33,1),(36,2),(40,1),(41,1),(43,1),(44,1),(55,1),(59,1),(64,2),(65,1),(66,1)]
def recvT:List Nat:=[60,63,31]
def allT:List Nat:=[]
def byrefT (f i:Nat):Bool:=(f == 49 && i == 2) || (f == 65 && i == 0) || (f == 33 && i == 0) || allT.contains f || (f == 21 && i == 1) || (recvT.contains f && i == 0) || (match capT.lookup f with
 | some n=>decide (n≤i)
 | none=>false)
def mutT (f:Nat):List Nat:=match f with
 | 65=>[10]
 | 3=>[2000101,2000116]
 | 25=>[12]
 | _=>[]
def actT (f r:Nat):List SA:=[]
def ractT (f r:Nat):List SA:=if f=3 then(if r=4 then [.matC 8 2 8] else []) else if f=4 then(if r=1 then [.mat 7 1] else []) else if f=7 then(if r=4 then [.mat 7 1] else []) else if f=8 then(if r=1 then [.matC 6 0 1] else []) else if f=9 then(if r=0 then [.frz 1] else []) else if f=15 then(if r=7 then [.mat 8 1] else []) else if f=20 then(if r=0 then [.frz 1] else if r=3 then [.frz 5] else []) else if f=23 then(if r=1 then [.matC 3 0 5] else []) else if f=38 then(if r=0 then [.frz 1] else []) else if f=41 then(if r=7 then [.mat 6 1] else []) else if f=43 then(if r=0 then [.mat 5 1] else if r=7 then [.frzC 33] else []) else if f=48 then(if r=6 then [.matC 9 0 1,.matC 10 0 2] else []) else []
def altT (f r:Nat):Option (Nat×Nat×List Nat):=none
noncomputable def pol0:Pol where
 byref:=byrefT
 keep:=fun f=>keepT1.contains f
 own:=fun f=>ownT.contains f
 pure:=fun f=>!notPure.contains f
 mask:=fun f r=>((mkTab.getD f []).lookup r).map (·.1)
 gc:=fun f r=>((mkTab.getD f []).lookup r).bind (·.2)
 dead:=fun f r=>(deTab.getD f []).getD r []
 bdead:=fun f r=>(beTab.getD f []).getD r []
 muts:=mutT
 acts:=actT
 racts:=ractT
 alts:=altT
 ext:=fun f=>if f=27 then some (cloneExt 2 16) else if f=21 then some ext49 else if f=26 then some (cloneExtO 5 56) else if f=60 then some (sortExt3 Tryd.prog 61 2 cmpLo) else if f=63 then some (sortExt3 Tryd.prog 64 1 cmpKy) else none
noncomputable abbrev pol1:Pol:=pol0
theorem zLc:pol1.muts=mutT:=rfl
theorem dd3:pol1.dead 3 0=[6]∧pol1.dead 3 1=[26,25,0]∧pol1.dead 3 2=[28,27]∧pol1.dead 3 3=[30,29,7,2,1]∧pol1.dead 3 4=[31,29]∧pol1.dead 3 5=[]∧pol1.dead 3 6=[34,33,32]∧pol1.dead 3 7=[37,36]∧pol1.dead 3 8=[47,46,45,44,43,42,41,40,39,38,35]∧pol1.dead 3 9=[52,51,50,49,48,11]∧pol1.dead 3 10=[57,56,55,54,53,10]∧pol1.dead 3 11=[63,62,61,60,59,58,8]∧pol1.dead 3 12=[68,67,66,65,64,14]∧pol1.dead 3 13=[96,95,94,93,92,91,90,89,88,87,86,85,84,83,82,81,80,79,78,77,76,75,74,73,72,71,70,69,17,15,13]∧pol1.dead 3 14=[97,16,12,7,2,1]∧pol1.dead 3 15=[104,103,102,101,100,99,98,97]∧pol1.dead 3 16=[108,107,106,105,1]∧pol1.dead 3 17=[112,111,110,109]∧pol1.dead 3 18=[119,118,117,116,115,114,113,16,12]∧pol1.dead 3 19=[156,155,154,153,152,151,150,149,148,147,146,145,144,143,142,141,140,139,138,137,136,135,134,133,132,131,130,129,128,127,126,125,124,123,122,121,120,24,23,22,21,20,19,18,7,2]∧pol1.racts 3 0=[]∧pol1.racts 3 1=[]∧pol1.racts 3 2=[]∧pol1.racts 3 3=[]∧pol1.racts 3 4=[.matC 8 2 8]∧pol1.racts 3 5=[]∧pol1.racts 3 6=[]∧pol1.racts 3 7=[]∧pol1.racts 3 8=[]∧pol1.racts 3 9=[]∧pol1.racts 3 10=[]∧pol1.racts 3 11=[]∧pol1.racts 3 12=[]∧pol1.racts 3 13=[]∧pol1.racts 3 14=[]∧pol1.racts 3 15=[]∧pol1.racts 3 16=[]∧pol1.racts 3 17=[]∧pol1.racts 3 18=[]∧pol1.racts 3 19=[]∧(∀ r,pol1.alts 3 r=none)∧pol1.bdead 3 0=[35,9]∧pol1.bdead 3 1=[]:=by and_intros<;>first|kernel_rfl|exact fun r=>rfl
theorem dd4:pol1.dead 4 0=[6]∧pol1.dead 4 1=[]∧pol1.dead 4 2=[]∧pol1.dead 4 3=[18,17,16,15,14,13,12,11]∧pol1.dead 4 4=[21,20]∧pol1.dead 4 5=[26,25,24,23,22,19]∧pol1.dead 4 6=[31,30,29,28,27]∧pol1.dead 4 7=[37,36,35,34,33,32]∧pol1.dead 4 8=[44,43,42,41,40,39,38,9]∧pol1.dead 4 9=[48,47,46,45,38,10,9]∧pol1.dead 4 10=[49,7]∧pol1.racts 4 0=[]∧pol1.racts 4 1=[.mat 7 1]∧pol1.racts 4 2=[]∧pol1.racts 4 3=[]∧pol1.racts 4 4=[]∧pol1.racts 4 5=[]∧pol1.racts 4 6=[]∧pol1.racts 4 7=[]∧pol1.racts 4 8=[]∧pol1.racts 4 9=[]∧pol1.racts 4 10=[]∧pol1.bdead 4 0=[19,8,2,1,0]∧pol1.bdead 4 1=[]:=by and_intros<;>first|kernel_rfl|exact fun r=>rfl
theorem dd5:pol1.dead 5 0=[0]∧pol1.dead 5 1=[24,23,22,21,20]∧pol1.dead 5 2=[29,28,27,26,25]∧pol1.dead 5 3=[35,34,33,32,31,30]∧pol1.dead 5 4=[66,65,64,63,62,61,60,59,58,57,56,55,54,53,52,51,50,49,48,47,46,45,44,43,42,41,40,39,38,37,36,7,6,5,4,3,2]∧pol1.dead 5 5=[67,1]∧pol1.dead 5 6=[74,73,72,71,70,69,68,67]∧pol1.dead 5 7=[81,80,79,78,77,76,75,11,1]∧pol1.dead 5 8=[88,87,86,85,84,83,82]∧pol1.dead 5 9=[97,96,95,94,93,92,91,90,89,16,14]∧pol1.dead 5 10=[103,102,101,100,99,98,15]∧pol1.dead 5 11=[133,132,131,130,129,128,127,126,125,124,123,122,121,120,119,118,117,116,115,114,113,112,111,110,109,108,107,106,105,104,19,18,17,13,12,10,9,8]∧(∀ r,pol1.racts 5 r=[])∧(∀ r,pol1.alts 5 r=none):=by and_intros<;>first|kernel_rfl|exact fun r=>rfl
theorem dd6:pol1.dead 6 0=[]∧pol1.dead 6 1=[7,6,5,4,3,0]∧(∀ r,pol1.racts 6 r=[]):=by and_intros<;>first|kernel_rfl|exact fun r=>rfl
theorem dd7:pol1.dead 7 0=[5,4]∧pol1.dead 7 1=[11,10,9]∧pol1.dead 7 2=[12]∧pol1.dead 7 3=[14,13,6,1,0]∧pol1.dead 7 4=[13,6]∧pol1.dead 7 5=[]∧pol1.dead 7 6=[17,16,15]∧pol1.dead 7 7=[20,19]∧pol1.dead 7 8=[28,27,26,25,24,23,22,21,18]∧pol1.dead 7 9=[29,7]∧pol1.racts 7 0=[]∧pol1.racts 7 1=[]∧pol1.racts 7 2=[]∧pol1.racts 7 3=[]∧pol1.racts 7 4=[.mat 7 1]∧pol1.racts 7 5=[]∧pol1.racts 7 6=[]∧pol1.racts 7 7=[]∧pol1.racts 7 8=[]∧pol1.racts 7 9=[]∧pol1.bdead 7 0=[18,8,1,0]∧pol1.bdead 7 1=[]:=by and_intros<;>first|kernel_rfl|exact fun r=>rfl
theorem dd8:pol1.dead 8 0=[]∧pol1.dead 8 1=[]∧pol1.dead 8 2=[]∧pol1.dead 8 3=[10,9,1,0]∧pol1.dead 8 4=[12]∧pol1.dead 8 5=[13]∧pol1.dead 8 6=[14,8,7,6,5,4]∧pol1.dead 8 7=[16,15,14,5,4]∧pol1.dead 8 8=[17,7]∧pol1.dead 8 9=[22,21,20,19,18,8,6]∧pol1.dead 8 10=[23,7]∧pol1.dead 8 11=[24,6]∧pol1.dead 8 12=[25,24,6]∧pol1.racts 8 0=[]∧pol1.racts 8 1=[.matC 6 0 1]∧pol1.racts 8 2=[]∧pol1.racts 8 3=[]∧pol1.racts 8 4=[]∧pol1.racts 8 5=[]∧pol1.racts 8 6=[]∧pol1.racts 8 7=[]∧pol1.racts 8 8=[]∧pol1.racts 8 9=[]∧pol1.racts 8 10=[]∧pol1.racts 8 11=[]∧pol1.racts 8 12=[]∧pol1.bdead 8 0=[11]∧pol1.bdead 8 1=[18,8,6]:=by and_intros<;>first|kernel_rfl|exact fun r=>rfl
theorem dd9:pol1.dead 9 0=[3,0]∧pol1.dead 9 1=[6,5]∧pol1.dead 9 2=[7]∧pol1.dead 9 3=[10,9,8,4,1]∧pol1.dead 9 4=[12,11,8,4]∧pol1.dead 9 5=[14,13,1]∧pol1.dead 9 6=[17,16,15,13]∧pol1.dead 9 7=[19,18,1]∧pol1.dead 9 8=[29,28,27,26,25,24,23,22,21,20,18,1]∧pol1.racts 9 0=[.frz 1]∧pol1.racts 9 1=[]∧pol1.racts 9 2=[]∧pol1.racts 9 3=[]∧pol1.racts 9 4=[]∧pol1.racts 9 5=[]∧pol1.racts 9 6=[]∧pol1.racts 9 7=[]∧pol1.racts 9 8=[]∧(∀ r,pol1.alts 9 r=none):=by and_intros<;>first|kernel_rfl|exact fun r=>rfl
theorem dd10:pol1.dead 10 0=[3,2,0]∧pol1.dead 10 1=[10,9]∧pol1.dead 10 2=[11]∧pol1.dead 10 3=[13,12,4,1]∧pol1.dead 10 4=[19,18,17,16,15,14,12,4]∧pol1.dead 10 5=[6]∧pol1.dead 10 6=[20,5,1]∧pol1.dead 10 7=[23,22,21,20]∧pol1.dead 10 8=[24]∧pol1.dead 10 9=[]∧pol1.dead 10 10=[28,27]∧pol1.dead 10 11=[38,37,36,35,34,33,32,31,30,29,8]∧pol1.dead 10 12=[39]∧pol1.dead 10 13=[46,45,44,43,42,41,40,7,5,1]∧(∀ r,pol1.racts 10 r=[])∧pol1.bdead 10 0=[27,26,25]∧pol1.bdead 10 1=[]:=by and_intros<;>first|kernel_rfl|exact fun r=>rfl
theorem dd11:pol1.dead 11 0=[2]∧pol1.dead 11 1=[6,5,4,3,0]∧(∀ r,pol1.racts 11 r=[]):=by and_intros<;>first|kernel_rfl|exact fun r=>rfl
theorem dd12:pol1.dead 12 0=[8,7]∧pol1.dead 12 1=[20,19]∧pol1.dead 12 2=[22,21,2,1,0]∧pol1.dead 12 3=[29,28,27,26,25,24,23,21]∧pol1.dead 12 4=[31,30,2,1,0]∧pol1.dead 12 5=[30]∧pol1.dead 12 6=[]∧pol1.dead 12 7=[]∧pol1.dead 12 8=[34,33]∧pol1.dead 12 9=[36,35,10]∧pol1.dead 12 10=[37]∧pol1.dead 12 11=[]∧pol1.dead 12 12=[]∧pol1.dead 12 13=[38]∧pol1.dead 12 14=[]∧pol1.dead 12 15=[39]∧pol1.dead 12 16=[42,41]∧pol1.dead 12 17=[52,51,50,49,48,47,46,45,44,43,40,14]∧pol1.dead 12 18=[17]∧pol1.dead 12 19=[61,60,59,58,57,56,55,54,53,18]∧pol1.dead 12 20=[65,64,63,62,53,18,16]∧pol1.dead 12 21=[66,15]∧pol1.dead 12 22=[68,67,12,11]∧(∀ r,pol1.racts 12 r=[])∧pol1.bdead 12 0=[33,32]∧pol1.bdead 12 1=[]∧pol1.bdead 12 2=[40,14,13,9,2,1,0]∧pol1.bdead 12 3=[]:=by and_intros<;>first|kernel_rfl|exact fun r=>rfl
theorem dd13:pol1.dead 13 0=[4]∧pol1.dead 13 1=[5]∧pol1.dead 13 2=[9,8,7,6]∧pol1.dead 13 3=[12,11,10,6,1,0]∧(∀ r,pol1.racts 13 r=[]):=by and_intros<;>first|kernel_rfl|exact fun r=>rfl
theorem dd15:pol1.dead 15 0=[4,3,2,0]∧pol1.dead 15 1=[11,10]∧pol1.dead 15 2=[12]∧pol1.dead 15 3=[14,13,5,1]∧pol1.dead 15 4=[20,19,18,17,16,15,13,5,1]∧pol1.dead 15 5=[21,7]∧pol1.dead 15 6=[22,6]∧pol1.dead 15 7=[22]∧pol1.dead 15 8=[25,24,23]∧pol1.dead 15 9=[30,29,28,27,26]∧pol1.dead 15 10=[36,35,34,33,32]∧pol1.dead 15 11=[44,43,42,41,40,39,38,37,31]∧pol1.dead 15 12=[46,45]∧pol1.dead 15 13=[47,8]∧pol1.racts 15 0=[]∧pol1.racts 15 1=[]∧pol1.racts 15 2=[]∧pol1.racts 15 3=[]∧pol1.racts 15 4=[]∧pol1.racts 15 5=[]∧pol1.racts 15 6=[]∧pol1.racts 15 7=[.mat 8 1]∧pol1.racts 15 8=[]∧pol1.racts 15 9=[]∧pol1.racts 15 10=[]∧pol1.racts 15 11=[]∧pol1.racts 15 12=[]∧pol1.racts 15 13=[]∧pol1.bdead 15 0=[31,9,6]∧pol1.bdead 15 1=[]:=by and_intros<;>first|kernel_rfl|exact fun r=>rfl
theorem dd17:pol1.dead 17 0=[4]∧pol1.dead 17 1=[8,7]∧pol1.dead 17 2=[9,1,0]∧pol1.dead 17 3=[9]∧pol1.dead 17 4=[12,11,10]∧pol1.dead 17 5=[15,14]∧pol1.dead 17 6=[21,20,19,18,17,16,13]∧pol1.dead 17 7=[22,6]∧pol1.dead 17 8=[23,5,1,0]∧pol1.dead 17 9=[]∧(∀ r,pol1.racts 17 r=[])∧pol1.bdead 17 0=[13,5,1,0]∧pol1.bdead 17 1=[23]:=by and_intros<;>first|kernel_rfl|exact fun r=>rfl
theorem dd18:pol1.dead 18 0=[4]∧pol1.dead 18 1=[9,8,7,6,5,1]∧pol1.dead 18 2=[13,12,11,10,0]∧pol1.dead 18 3=[14,10]∧pol1.dead 18 4=[24,23,22,21,20,19,18,17,16,15,0]∧pol1.dead 18 5=[25,15]∧pol1.dead 18 6=[40,39,38,37,36,35,34,33,32,31,30,29,28,27,26,0]∧pol1.dead 18 7=[59,58,57,56,55,54,53,52,51,50,49,48,47,46,45,44,43,42,41,26,0]∧(∀ r,pol1.racts 18 r=[]):=by and_intros<;>first|kernel_rfl|exact fun r=>rfl
theorem dd19:pol1.dead 19 0=[4,1,0]∧pol1.dead 19 1=[5,3,2]∧(∀ r,pol1.racts 19 r=[]):=by and_intros<;>first|kernel_rfl|exact fun r=>rfl
theorem dd20:pol1.dead 20 0=[2,0]∧pol1.dead 20 1=[]∧pol1.dead 20 2=[14,13,12,11,10,9,8,7]∧pol1.dead 20 3=[17,16,15]∧pol1.dead 20 4=[]∧pol1.dead 20 5=[18,5,3]∧pol1.dead 20 6=[21,20,19,6,1]∧pol1.dead 20 7=[22,4]∧pol1.dead 20 8=[23,22,4]∧pol1.dead 20 9=[24]∧pol1.dead 20 10=[24]∧pol1.racts 20 0=[.frz 1]∧pol1.racts 20 1=[]∧pol1.racts 20 2=[]∧pol1.racts 20 3=[.frz 5]∧pol1.racts 20 4=[]∧pol1.racts 20 5=[]∧pol1.racts 20 6=[]∧pol1.racts 20 7=[]∧pol1.racts 20 8=[]∧pol1.racts 20 9=[]∧pol1.racts 20 10=[]:=by and_intros<;>first|kernel_rfl|exact fun r=>rfl
theorem dd21:pol1.dead 21 0=[4]∧pol1.dead 21 1=[8,7,6]∧pol1.dead 21 2=[32,1,0]∧pol1.dead 21 3=[11]∧pol1.dead 21 4=[12]∧pol1.dead 21 5=[13]∧pol1.dead 21 6=[14]∧pol1.dead 21 7=[15]∧pol1.dead 21 8=[17,10]∧pol1.dead 21 9=[30,29,28,27,26,25,24,23,22,21,20,19,18,16,9]∧pol1.dead 21 10=[31,1,0]∧pol1.dead 21 11=[33,16,9]∧pol1.dead 21 12=[38,37,36,35,34,32]∧pol1.dead 21 13=[39,1,0]∧pol1.dead 21 14=[46,45,44,43,42,41,40,39]∧pol1.dead 21 15=[50,49,48,47]∧pol1.dead 21 16=[]∧pol1.dead 21 17=[54,53]∧pol1.dead 21 18=[62,61,60,59,58,57,56,55,5]∧pol1.dead 21 19=[63,52,51,1,0]∧pol1.dead 21 20=[64]∧pol1.dead 21 21=[]∧(∀ r,pol1.racts 21 r=[])∧pol1.bdead 21 0=[31,10,9]∧pol1.bdead 21 1=[53,52,51,1,0]∧pol1.bdead 21 2=[63]:=by and_intros<;>first|kernel_rfl|exact fun r=>rfl
theorem dd22:pol1.dead 22 0=[2]∧pol1.dead 22 1=[]∧pol1.dead 22 2=[9,8,7,6]∧pol1.dead 22 3=[]∧pol1.dead 22 4=[13,12]∧pol1.dead 22 5=[23,22,21,20,19,18,17,16,15,14,4]∧pol1.dead 22 6=[24]∧pol1.dead 22 7=[25]∧pol1.dead 22 8=[28,27,26]∧pol1.dead 22 9=[31]∧pol1.dead 22 10=[32]∧pol1.dead 22 11=[30,29,3,0]∧pol1.dead 22 12=[34,30]∧pol1.dead 22 13=[43,42,41,40,39,38,37,36,35,33,29,3,0]∧pol1.dead 22 14=[45,33]∧pol1.dead 22 15=[47,46,44,29,3,0]∧pol1.dead 22 16=[49,44,29]∧pol1.dead 22 17=[55,54,53,52,51,50,48]∧pol1.dead 22 18=[59,58,57,56]∧pol1.dead 22 19=[64,63,62,61,60,3,0]∧pol1.dead 22 20=[78,77,76,75,74,73,72,71,70,69,68,67,66,65,60,3,0]∧pol1.dead 22 21=[80,79,5]∧(∀ r,pol1.racts 22 r=[])∧(∀ r,pol1.alts 22 r=none)∧pol1.bdead 22 0=[12,11,10]∧pol1.bdead 22 1=[]∧pol1.bdead 22 2=[48,3,0]:=by and_intros<;>first|kernel_rfl|exact fun r=>rfl
theorem dd23:pol1.dead 23 0=[2]∧pol1.dead 23 1=[]∧pol1.dead 23 2=[8]∧pol1.dead 23 3=[]∧pol1.dead 23 4=[9]∧pol1.dead 23 5=[10]∧pol1.dead 23 6=[11,7,6,4]∧pol1.dead 23 7=[14,13,12,5,0]∧pol1.dead 23 8=[15,3]∧pol1.racts 23 0=[]∧pol1.racts 23 1=[.matC 3 0 5]∧pol1.racts 23 2=[]∧pol1.racts 23 3=[]∧pol1.racts 23 4=[]∧pol1.racts 23 5=[]∧pol1.racts 23 6=[]∧pol1.racts 23 7=[]∧pol1.racts 23 8=[]:=by and_intros<;>first|kernel_rfl|exact fun r=>rfl
theorem dd24:pol1.dead 24 0=[2,0]∧pol1.dead 24 1=[5,4]∧pol1.dead 24 2=[6]∧pol1.dead 24 3=[8,7,3,1]∧pol1.dead 24 4=[10,9,7,3,1]∧pol1.dead 24 5=[11]∧pol1.dead 24 6=[11]∧(∀ r,pol1.racts 24 r=[]):=by and_intros<;>first|kernel_rfl|exact fun r=>rfl
theorem dd25:pol1.dead 25 0=[3,2]∧pol1.dead 25 1=[12,11]∧pol1.dead 25 2=[14,13]∧pol1.dead 25 3=[]∧pol1.dead 25 4=[17,16,15]∧pol1.dead 25 5=[20,19]∧pol1.dead 25 6=[30,29,28,27,26,25,24,23,22,21,18]∧pol1.dead 25 7=[8]∧pol1.dead 25 8=[35,34,33,32,31,7,6,5,4,0]∧pol1.dead 25 9=[31,7]∧pol1.dead 25 10=[]∧pol1.dead 25 11=[41,40,39]∧pol1.dead 25 12=[45,44,43,42]∧pol1.dead 25 13=[49,48,47,46]∧pol1.dead 25 14=[64,63,62,61,60,59,58,57,56,55,54,53,52,51,50,10]∧pol1.dead 25 15=[65]∧pol1.dead 25 16=[66,4]∧(∀ r,pol1.racts 25 r=[])∧pol1.bdead 25 0=[18,6,5,0]∧pol1.bdead 25 1=[]∧pol1.bdead 25 2=[39,38,37,36]∧pol1.bdead 25 3=[46,10]:=by and_intros<;>first|kernel_rfl|exact fun r=>rfl
theorem dd26:pol1.dead 26 0=[2]∧pol1.dead 26 1=[3]∧pol1.dead 26 2=[4,0]∧pol1.dead 26 3=[7,6,5,4,0]∧(∀ r,pol1.racts 26 r=[]):=by and_intros<;>first|kernel_rfl|exact fun r=>rfl
theorem dd27:pol1.dead 27 0=[2]∧pol1.dead 27 1=[3]∧pol1.dead 27 2=[4,0]∧pol1.dead 27 3=[7,6,5,4,0]∧(∀ r,pol1.racts 27 r=[]):=by and_intros<;>first|kernel_rfl|exact fun r=>rfl
theorem dd28:pol1.dead 28 0=[3,2,0]∧pol1.dead 28 1=[]∧pol1.dead 28 2=[18,17,16,15,14,1]∧pol1.dead 28 3=[20]∧pol1.dead 28 4=[21]∧pol1.dead 28 5=[29,28,27,26,25,24,23,22]∧pol1.dead 28 6=[33,32,31,30,13,12,11,10,9,8,7,6,4]∧pol1.dead 28 7=[51,50,49,48,47,46,45,44,43,42,41,40,39,38,37,36,35,34,30,11,10,7,6,4]∧pol1.dead 28 8=[55,54,53,52,13,12,9,8]∧pol1.dead 28 9=[58,57,56]∧(∀ r,pol1.racts 28 r=[])∧(∀ r,pol1.alts 28 r=none)∧pol1.bdead 28 0=[19,7,6,4]∧pol1.bdead 28 1=[52,13,12,9,8]:=by and_intros<;>first|kernel_rfl|exact fun r=>rfl
theorem dd29:pol1.dead 29 0=[3]∧pol1.dead 29 1=[18,17,16,15,14,13,12,11,2,1,0]∧pol1.dead 29 2=[20,19]∧pol1.dead 29 3=[]∧pol1.dead 29 4=[24,23]∧pol1.dead 29 5=[29,28,27,26,25]∧pol1.dead 29 6=[41,40,39,38,37,36,35,34,33,32,31,30]∧pol1.dead 29 7=[56,55,54,53,52,51,50,49,48,47,46,45,44,43,42,10]∧pol1.dead 29 8=[57]∧pol1.dead 29 9=[58,9]∧(∀ r,pol1.racts 29 r=[])∧(∀ r,pol1.alts 29 r=none)∧pol1.bdead 29 0=[23,22,21,7]∧pol1.bdead 29 1=[42,10]:=by and_intros<;>first|kernel_rfl|exact fun r=>rfl
theorem dd30:pol1.dead 30 0=[1,0]∧pol1.dead 30 1=[4]∧pol1.dead 30 2=[]∧pol1.dead 30 3=[13,12,11]∧pol1.dead 30 4=[8]∧pol1.dead 30 5=[17,16,15,14,7]∧pol1.dead 30 6=[18]∧pol1.dead 30 7=[19,3]∧(∀ r,pol1.racts 30 r=[])∧pol1.bdead 30 0=[11,10,9,2]∧pol1.bdead 30 1=[14,7]:=by and_intros<;>first|kernel_rfl|exact fun r=>rfl
theorem dd31:pol1.dead 31 0=[6,5,4]∧pol1.dead 31 1=[8,7]∧pol1.dead 31 2=[13,12,11,10]∧pol1.dead 31 3=[27,26,25,24,23,22,21,20,19,18,17,16,15,14,9]∧(∀ r,pol1.racts 31 r=[])∧(∀ r,pol1.alts 31 r=none)∧pol1.bdead 31 0=[9,3,2,0]∧pol1.bdead 31 1=[]:=by and_intros<;>first|kernel_rfl|exact fun r=>rfl
theorem dd32:pol1.dead 32 0=[4]∧pol1.dead 32 1=[5,1]∧pol1.dead 32 2=[12,11,10,9,8,7,6,0]∧pol1.dead 32 3=[26,25,24,23,22,21,20,19,18,17,16,15,14,13,6,0]∧(∀ r,pol1.racts 32 r=[]):=by and_intros<;>first|kernel_rfl|exact fun r=>rfl
theorem dd33:pol1.dead 33 0=[]∧pol1.dead 33 1=[9,8,7]∧pol1.dead 33 2=[15,14,13,12,11,10]∧pol1.dead 33 3=[]∧pol1.dead 33 4=[23,22,21,20,19,18,17,16]∧pol1.dead 33 5=[24,16]∧pol1.dead 33 6=[27,26,25,6,5,4,2,1,0]∧pol1.dead 33 7=[30,29,28,25,5]∧pol1.dead 33 8=[34,33,32,31,6]∧(∀ r,pol1.racts 33 r=[])∧pol1.bdead 33 0=[10,4,2,1,0]∧pol1.bdead 33 1=[]:=by and_intros<;>first|kernel_rfl|exact fun r=>rfl
theorem dd34:pol1.dead 34 0=[3,2]∧pol1.dead 34 1=[13,12,11,10]∧pol1.dead 34 2=[]∧pol1.dead 34 3=[]∧pol1.dead 34 4=[17,16]∧pol1.dead 34 5=[33,32,31,30,29,28,27,26,25,24,23,22,21,20,19,18]∧pol1.dead 34 6=[38,37,36,35,34,15,14]∧pol1.dead 34 7=[39,6,4,0]∧pol1.dead 34 8=[43,42,41,40,39,4]∧pol1.dead 34 9=[47,46,45,44,0]∧pol1.dead 34 10=[]∧pol1.dead 34 11=[53,52,51]∧pol1.dead 34 12=[58,57,56,55,54]∧pol1.dead 34 13=[59,50,49,48,9,7,6]∧pol1.dead 34 14=[65,64,63,62,61,60,59,9]∧pol1.dead 34 15=[66]∧pol1.dead 34 16=[79,78,77,76,75,74,73,72,71,70,69,68,67]∧pol1.dead 34 17=[80,7,6]∧pol1.dead 34 18=[84,83,82,81,80,7,6]∧pol1.dead 34 19=[85]∧pol1.dead 34 20=[]∧(∀ r,pol1.racts 34 r=[])∧(∀ r,pol1.alts 34 r=none)∧pol1.bdead 34 0=[16,15,14,4,0]∧pol1.bdead 34 1=[34,6]∧pol1.bdead 34 2=[51,50,49,48]∧pol1.bdead 34 3=[]:=by and_intros<;>first|kernel_rfl|exact fun r=>rfl
theorem dd35:pol1.dead 35 0=[2]∧pol1.dead 35 1=[0]∧pol1.dead 35 2=[3]∧pol1.dead 35 3=[3]∧(∀ r,pol1.racts 35 r=[]):=by and_intros<;>first|kernel_rfl|exact fun r=>rfl
theorem dd36:pol1.dead 36 0=[9]∧pol1.dead 36 1=[12,11]∧pol1.dead 36 2=[17,16,15,14,13,2]∧pol1.dead 36 3=[18,6,5,4,3,1,0]∧pol1.dead 36 4=[26,25,24,23,22,21,20,19,18,5,4,3]∧pol1.dead 36 5=[30,29,28,27]∧pol1.dead 36 6=[]∧pol1.dead 36 7=[34,33]∧pol1.dead 36 8=[44,43,42,41,40,39,38,37,36,35,10]∧pol1.dead 36 9=[45,32,31,6,1,0]∧pol1.dead 36 10=[46]∧pol1.dead 36 11=[]∧(∀ r,pol1.racts 36 r=[])∧(∀ r,pol1.alts 36 r=none)∧pol1.bdead 36 0=[33,32,31,6,1,0]∧pol1.bdead 36 1=[45]:=by and_intros<;>first|kernel_rfl|exact fun r=>rfl
theorem dd37:pol1.dead 37 0=[6]∧pol1.dead 37 1=[15,14,13,12,11]∧pol1.dead 37 2=[28,27,26,25,24,23,22,21,20,19,18,17,16,1]∧pol1.dead 37 3=[31,30,29]∧pol1.dead 37 4=[32]∧pol1.dead 37 5=[]∧pol1.dead 37 6=[35,34,33]∧pol1.dead 37 7=[38]∧pol1.dead 37 8=[40,39,37,36,8,7,2,0]∧pol1.dead 37 9=[42,37]∧pol1.dead 37 10=[52,51,50,49,48,47,46,45,44,43,41,36,8,7,2,0]∧pol1.dead 37 11=[53]∧pol1.dead 37 12=[55,41,2]∧pol1.dead 37 13=[56]∧pol1.dead 37 14=[58,57,54,36,8,7,0]∧pol1.dead 37 15=[60,54]∧pol1.dead 37 16=[66,65,64,63,62,61,59,36,8,7,0]∧pol1.dead 37 17=[69,68,67]∧pol1.dead 37 18=[71,59]∧pol1.dead 37 19=[76,75,74,73,72,70,36,8,7,0]∧pol1.dead 37 20=[77]∧pol1.dead 37 21=[79,70]∧pol1.dead 37 22=[84,83,82,81,80,78,36,8,7,0]∧pol1.dead 37 23=[85]∧pol1.dead 37 24=[87,78]∧pol1.dead 37 25=[88]∧pol1.dead 37 26=[90,89,86,36,8,7,0]∧pol1.dead 37 27=[91]∧pol1.dead 37 28=[93,86]∧pol1.dead 37 29=[95,94,92,36,8,7,0]∧pol1.dead 37 30=[97,92]∧pol1.dead 37 31=[102,101,100,99,98,96,36,8,7,0]∧pol1.dead 37 32=[103]∧pol1.dead 37 33=[105,96,36,8]∧pol1.dead 37 34=[121,120,119,118,117,116,115,114,113,112,111,110,109,108,107,106,104,7,0]∧pol1.dead 37 35=[122]∧pol1.dead 37 36=[154,153,152,151,150,149,148,147,146,145,144,143,142,141,140,139,138,137,136,135,134,133,132,131,130,129,128,127,126,125,124,123,10,9]∧(∀ r,pol1.racts 37 r=[])∧pol1.bdead 37 0=[104,7,0]:=by and_intros<;>first|kernel_rfl|exact fun r=>rfl
theorem dd38:pol1.dead 38 0=[2,0]∧pol1.dead 38 1=[]∧pol1.dead 38 2=[4]∧pol1.dead 38 3=[6,5,3,1]∧pol1.racts 38 0=[.frz 1]∧pol1.racts 38 1=[]∧pol1.racts 38 2=[]∧pol1.racts 38 3=[]:=by and_intros<;>first|kernel_rfl|exact fun r=>rfl
theorem dd39:pol1.dead 39 0=[4]∧pol1.dead 39 1=[8,7,6,5,1,0]∧(∀ r,pol1.racts 39 r=[]):=by and_intros<;>first|kernel_rfl|exact fun r=>rfl
theorem dd40:pol1.dead 40 0=[3,0]∧pol1.dead 40 1=[7,6,5,4,2]∧pol1.dead 40 2=[10,9,8,1]∧(∀ r,pol1.racts 40 r=[]):=by and_intros<;>first|kernel_rfl|exact fun r=>rfl
theorem dd41:pol1.dead 41 0=[11,10,9]∧pol1.dead 41 1=[]∧pol1.dead 41 2=[21,20,19,18,17,16,15,14]∧pol1.dead 41 3=[22]∧pol1.dead 41 4=[31,30,29,28,27,26,25,24,23]∧pol1.dead 41 5=[35,34,33,32]∧pol1.dead 41 6=[36]∧pol1.dead 41 7=[36]∧pol1.dead 41 8=[5]∧pol1.dead 41 9=[]∧pol1.dead 41 10=[45,44,43,42,41,40,39]∧pol1.dead 41 11=[52,51,50,49,48,47,46]∧pol1.dead 41 12=[53]∧pol1.dead 41 13=[57,56,55,54]∧pol1.dead 41 14=[64,63,62,61,60,59,58,2]∧pol1.dead 41 15=[58,6,2]∧pol1.dead 41 16=[]∧pol1.dead 41 17=[70,69,68]∧pol1.dead 41 18=[82,81,80,79,78,77,76,75,74,73,72,71,8]∧pol1.dead 41 19=[83]∧pol1.racts 41 0=[]∧pol1.racts 41 1=[]∧pol1.racts 41 2=[]∧pol1.racts 41 3=[]∧pol1.racts 41 4=[]∧pol1.racts 41 5=[]∧pol1.racts 41 6=[]∧pol1.racts 41 7=[.mat 6 1]∧pol1.racts 41 8=[]∧pol1.racts 41 9=[]∧pol1.racts 41 10=[]∧pol1.racts 41 11=[]∧pol1.racts 41 12=[]∧pol1.racts 41 13=[]∧pol1.racts 41 14=[]∧pol1.racts 41 15=[]∧pol1.racts 41 16=[]∧pol1.racts 41 17=[]∧pol1.racts 41 18=[]∧pol1.racts 41 19=[]∧(∀ r,pol1.alts 41 r=none)∧pol1.bdead 41 0=[14,13,12]∧pol1.bdead 41 1=[]∧pol1.bdead 41 2=[39,38,37,1]∧pol1.bdead 41 3=[]∧pol1.bdead 41 4=[68,67,66,65,3,0]∧pol1.bdead 41 5=[]:=by and_intros<;>first|kernel_rfl|exact fun r=>rfl
theorem dd42:pol1.dead 42 0=[]∧pol1.dead 42 1=[7,2]∧pol1.dead 42 2=[11,10,9,8,1,0]∧pol1.dead 42 3=[14,13,12,8,1,0]∧(∀ r,pol1.racts 42 r=[]):=by and_intros<;>first|kernel_rfl|exact fun r=>rfl
theorem dd43:pol1.dead 43 0=[]∧pol1.dead 43 1=[14,13,12,11,10]∧pol1.dead 43 2=[]∧pol1.dead 43 3=[18,17]∧pol1.dead 43 4=[21,20,19]∧pol1.dead 43 5=[26,25,24,23,22,6]∧pol1.dead 43 6=[32,31,30,29,28,27]∧pol1.dead 43 7=[40,39,38,37,36,35,34,33,7]∧pol1.dead 43 8=[41]∧pol1.dead 43 9=[48,47,46,45,44,43,42,2,0]∧pol1.dead 43 10=[5]∧pol1.dead 43 11=[]∧pol1.dead 43 12=[54,53,52]∧pol1.dead 43 13=[60,59,58,57,56,55,9]∧pol1.dead 43 14=[61]∧pol1.racts 43 0=[.mat 5 1]∧pol1.racts 43 1=[]∧pol1.racts 43 2=[]∧pol1.racts 43 3=[]∧pol1.racts 43 4=[]∧pol1.racts 43 5=[]∧pol1.racts 43 6=[]∧pol1.racts 43 7=[.frzC 33]∧pol1.racts 43 8=[]∧pol1.racts 43 9=[]∧pol1.racts 43 10=[]∧pol1.racts 43 11=[]∧pol1.racts 43 12=[]∧pol1.racts 43 13=[]∧pol1.racts 43 14=[]∧(∀ r,pol1.alts 43 r=none)∧pol1.bdead 43 0=[17,16,15,1]∧pol1.bdead 43 1=[]∧pol1.bdead 43 2=[52,51,50,49,3]∧pol1.bdead 43 3=[]:=by and_intros<;>first|kernel_rfl|exact fun r=>rfl
theorem dd44:pol1.dead 44 0=[9,8,7]∧pol1.dead 44 1=[12]∧pol1.dead 44 2=[20,19,18,17,16,15,14,13,11,10,4,3,2,1,0]∧pol1.dead 44 3=[22,11]∧pol1.dead 44 4=[29,28,27,26,25,24,23,21,10,4,3,2,1,0]∧pol1.dead 44 5=[31,21]∧pol1.dead 44 6=[35,34,33,32,30,10,4,3,1]∧pol1.dead 44 7=[]∧pol1.dead 44 8=[39,38]∧pol1.dead 44 9=[47,46,45,44,43,42,41,40,6]∧pol1.dead 44 10=[48]∧pol1.dead 44 11=[50,30]∧pol1.dead 44 12=[56,55,54,53,52,51,49,10,4,3,2,1,0]∧pol1.dead 44 13=[58,49,3]∧pol1.dead 44 14=[67,66,65,64,63,62,61,60,59,57,10,4]∧pol1.dead 44 15=[74,73,72,71,70,69,68,2]∧pol1.dead 44 16=[83,82,81,80,79,78,77,76,75,1,0]∧pol1.dead 44 17=[85,57,10,2,1]∧pol1.dead 44 18=[88,87,86,84,4,0]∧(∀ r,pol1.racts 44 r=[])∧(∀ r,pol1.alts 44 r=none)∧pol1.bdead 44 0=[84,4,0]∧pol1.bdead 44 1=[38,37,36,2,0]∧pol1.bdead 44 2=[]:=by and_intros<;>first|kernel_rfl|exact fun r=>rfl
theorem dd45:pol1.dead 45 0=[2,0]∧pol1.dead 45 1=[6,5,4]∧pol1.dead 45 2=[7,1]∧pol1.dead 45 3=[20,19,18,17,16,15,14,13,12,11,10,9,8,7]∧pol1.dead 45 4=[21,1]∧pol1.dead 45 5=[23,22,21]∧pol1.dead 45 6=[]∧pol1.dead 45 7=[27,26]∧pol1.dead 45 8=[33,32,31,30,29,28,3]∧pol1.dead 45 9=[34,25,24,1]∧pol1.dead 45 10=[35]∧pol1.dead 45 11=[43,42,41,40,39,38,37,36,1]∧pol1.dead 45 12=[46]∧pol1.dead 45 13=[47]∧pol1.dead 45 14=[48,44]∧pol1.dead 45 15=[45,44]∧pol1.dead 45 16=[]∧(∀ r,pol1.racts 45 r=[])∧(∀ r,pol1.alts 45 r=none)∧pol1.bdead 45 0=[26,25,24]∧pol1.bdead 45 1=[34]∧pol1.bdead 45 2=[45,44]:=by and_intros<;>first|kernel_rfl|exact fun r=>rfl
theorem dd46:pol1.dead 46 0=[4]∧pol1.dead 46 1=[8,7,6,5,1,0]∧(∀ r,pol1.racts 46 r=[]):=by and_intros<;>first|kernel_rfl|exact fun r=>rfl
theorem dd47:pol1.dead 47 0=[2,0]∧pol1.dead 47 1=[5,4,3,1]∧(∀ r,pol1.racts 47 r=[]):=by and_intros<;>first|kernel_rfl|exact fun r=>rfl
theorem dd48:pol1.dead 48 0=[5,4,0]∧pol1.dead 48 1=[16,15,14]∧pol1.dead 48 2=[]∧pol1.dead 48 3=[17,6]∧pol1.dead 48 4=[]∧pol1.dead 48 5=[]∧pol1.dead 48 6=[]∧pol1.dead 48 7=[20,19,18,8,1]∧pol1.dead 48 8=[23,22]∧pol1.dead 48 9=[28,27,26,25,24]∧pol1.dead 48 10=[31,30,29,12,11,10,9,2]∧pol1.dead 48 11=[37,36,35,34,33,32,29,11]∧pol1.dead 48 12=[42,41,40,39,38,9]∧pol1.dead 48 13=[49,48,47,46,45,44,43,12,10,2]∧pol1.dead 48 14=[53,52,51,50,11,7]∧pol1.dead 48 15=[54,10,9,2]∧pol1.dead 48 16=[56,55,54]∧pol1.dead 48 17=[]∧pol1.dead 48 18=[59,58,57]∧pol1.dead 48 19=[62,61]∧pol1.dead 48 20=[73,72,71,70,69,68,67,66,65,64,63,60]∧pol1.dead 48 21=[74,13,10,9,2]∧pol1.dead 48 22=[77,76,75,2]∧pol1.dead 48 23=[78,9]∧pol1.racts 48 0=[]∧pol1.racts 48 1=[]∧pol1.racts 48 2=[]∧pol1.racts 48 3=[]∧pol1.racts 48 4=[]∧pol1.racts 48 5=[]∧pol1.racts 48 6=[.matC 9 0 1,.matC 10 0 2]∧pol1.racts 48 7=[]∧pol1.racts 48 8=[]∧pol1.racts 48 9=[]∧pol1.racts 48 10=[]∧pol1.racts 48 11=[]∧pol1.racts 48 12=[]∧pol1.racts 48 13=[]∧pol1.racts 48 14=[]∧pol1.racts 48 15=[]∧pol1.racts 48 16=[]∧pol1.racts 48 17=[]∧pol1.racts 48 18=[]∧pol1.racts 48 19=[]∧pol1.racts 48 20=[]∧pol1.racts 48 21=[]∧pol1.racts 48 22=[]∧pol1.racts 48 23=[]∧(∀ r,pol1.alts 48 r=none)∧pol1.bdead 48 0=[21]∧pol1.bdead 48 1=[38,12,10,9,2]∧pol1.bdead 48 2=[60,13,10]∧pol1.bdead 48 3=[74]:=by and_intros<;>first|kernel_rfl|exact fun r=>rfl
theorem dd49:pol1.dead 49 0=[6,2,1,0]∧pol1.dead 49 1=[7,5,4,3]∧(∀ r,pol1.racts 49 r=[]):=by and_intros<;>first|kernel_rfl|exact fun r=>rfl
theorem dd50:pol1.dead 50 0=[2,0]∧pol1.dead 50 1=[]∧(∀ r,pol1.racts 50 r=[]):=by and_intros<;>first|kernel_rfl|exact fun r=>rfl
theorem dd51:pol1.dead 51 0=[4]∧pol1.dead 51 1=[0]∧pol1.dead 51 2=[]∧pol1.dead 51 3=[12,11,10]∧pol1.dead 51 4=[21,20,19,18,17,16,15,14,13,6]∧pol1.dead 51 5=[22,9,8,7,1]∧pol1.dead 51 6=[23]∧pol1.dead 51 7=[]∧(∀ r,pol1.racts 51 r=[])∧pol1.bdead 51 0=[10,9,8,7,1]∧pol1.bdead 51 1=[22]:=by and_intros<;>first|kernel_rfl|exact fun r=>rfl
theorem dd52:pol1.dead 52 0=[2]∧pol1.dead 52 1=[8,7,6,5,4,3,0]∧(∀ r,pol1.racts 52 r=[]):=by and_intros<;>first|kernel_rfl|exact fun r=>rfl
theorem dd53:pol1.dead 53 0=[4]∧pol1.dead 53 1=[8,7]∧pol1.dead 53 2=[9,1,0]∧pol1.dead 53 3=[9]∧pol1.dead 53 4=[]∧pol1.dead 53 5=[16,15,14,13]∧pol1.dead 53 6=[47,46,45,44,43,42,41,40,39,38,37,36,35,34,33,32,31,30,29,28,27,26,25,24,23,22,21,20,19,18,17,6,5]∧pol1.dead 53 7=[48,12,11,10,1,0]∧pol1.dead 53 8=[49]∧pol1.dead 53 9=[]∧(∀ r,pol1.racts 53 r=[])∧(∀ r,pol1.alts 53 r=none)∧pol1.bdead 53 0=[13,12,11,10,1,0]∧pol1.bdead 53 1=[48]:=by and_intros<;>first|kernel_rfl|exact fun r=>rfl
theorem dd54:pol1.dead 54 0=[2]∧pol1.dead 54 1=[27,26,25,24,23,22,21,20,19,18,17,16,15,14,13,12,11,10,9,8,7,6,5,4,3]∧pol1.dead 54 2=[28,0]∧pol1.dead 54 3=[58,57,56,55,54,53,52,51,50,49,48,47,46,45,44,43,42,41,40,39,38,37,36,35,34,33,32,31,30,29,28,0]∧(∀ r,pol1.racts 54 r=[])∧(∀ r,pol1.alts 54 r=none):=by and_intros<;>first|kernel_rfl|exact fun r=>rfl
theorem dd55:pol1.dead 55 0=[3]∧pol1.dead 55 1=[8,7,6]∧pol1.dead 55 2=[43,9,1,0]∧pol1.dead 55 3=[11]∧pol1.dead 55 4=[12]∧pol1.dead 55 5=[13]∧pol1.dead 55 6=[14]∧pol1.dead 55 7=[15]∧pol1.dead 55 8=[10,9,1,0]∧pol1.dead 55 9=[17,10]∧pol1.dead 55 10=[21,20,19,18,16,9]∧pol1.dead 55 11=[]∧pol1.dead 55 12=[25,24]∧pol1.dead 55 13=[33,32,31,30,29,28,27,26,4]∧pol1.dead 55 14=[34,23,22,1,0]∧pol1.dead 55 15=[35]∧pol1.dead 55 16=[]∧pol1.dead 55 17=[37,16]∧pol1.dead 55 18=[41,40,39,38,36,9]∧pol1.dead 55 19=[42,1,0]∧pol1.dead 55 20=[44,36]∧pol1.dead 55 21=[45]∧pol1.dead 55 22=[46]∧pol1.dead 55 23=[47,9]∧pol1.dead 55 24=[51,50,49,48]∧pol1.dead 55 25=[]∧pol1.dead 55 26=[55,54]∧pol1.dead 55 27=[62,61,60,59,58,57,56,5]∧pol1.dead 55 28=[63,53,52,1,0]∧pol1.dead 55 29=[64]∧pol1.dead 55 30=[]∧(∀ r,pol1.racts 55 r=[])∧(∀ r,pol1.alts 55 r=none)∧pol1.bdead 55 0=[43,42,9]∧pol1.bdead 55 1=[24,23,22,1,0]∧pol1.bdead 55 2=[34]∧pol1.bdead 55 3=[54,53,52,1,0]∧pol1.bdead 55 4=[63]:=by and_intros<;>first|kernel_rfl|exact fun r=>rfl
theorem dd56:pol1.dead 56 0=[4]∧pol1.dead 56 1=[6]∧pol1.dead 56 2=[]∧pol1.dead 56 3=[10,9]∧pol1.dead 56 4=[15,14,13,12,11]∧pol1.dead 56 5=[17,16,8,7,5,1,0]∧pol1.dead 56 6=[18]∧pol1.dead 56 7=[]∧(∀ r,pol1.racts 56 r=[])∧pol1.bdead 56 0=[9,8,7,1,0]∧pol1.bdead 56 1=[16,5]:=by and_intros<;>first|kernel_rfl|exact fun r=>rfl
theorem dd57:pol1.dead 57 0=[4,0]∧pol1.dead 57 1=[9]∧pol1.dead 57 2=[10]∧pol1.dead 57 3=[]∧pol1.dead 57 4=[13,12,11]∧pol1.dead 57 5=[16]∧pol1.dead 57 6=[15,14,5,2]∧pol1.dead 57 7=[18,15]∧pol1.dead 57 8=[24,23,22,21,20,19,17,14,5]∧pol1.dead 57 9=[30,29,28,27,26,25]∧pol1.dead 57 10=[39,38,37,36,35,34,33,32,31,2]∧pol1.dead 57 11=[49,48,47,46,45,44,43,42,41,40,8]∧pol1.dead 57 12=[51,17]∧pol1.dead 57 13=[65,64,63,62,61,60,59,58,57,56,55,54,53,52,50,14,5,2]∧pol1.dead 57 14=[75,74,73,72,71,70,69,68,67,66]∧pol1.dead 57 15=[77,50]∧pol1.dead 57 16=[83,82,81,80,79,78,76,14,5,2]∧pol1.dead 57 17=[88,87,86,85,84]∧pol1.dead 57 18=[90,76,5]∧pol1.dead 57 19=[106,105,104,103,102,101,100,99,98,97,96,95,94,93,92,91,89,14,2]∧pol1.dead 57 20=[111,110,109,108,107]∧pol1.dead 57 21=[113,89,14,2]∧pol1.dead 57 22=[125,124,123,122,121,120,119,118,117,116,115,114,112]∧pol1.dead 57 23=[130,129,128,127,126]∧pol1.dead 57 24=[163,162,161,160,159,158,157,156,155,154,153,152,151,150,149,148,147,146,145,144,143,142,141,140,139,138,137,136,135,134,133,132,131,7,6,1]∧(∀ r,pol1.racts 57 r=[])∧(∀ r,pol1.alts 57 r=none)∧pol1.bdead 57 0=[112,40,8]:=by and_intros<;>first|kernel_rfl|exact fun r=>rfl
theorem dd58:pol1.dead 58 0=[4]∧pol1.dead 58 1=[6]∧pol1.dead 58 2=[]∧pol1.dead 58 3=[10,9]∧pol1.dead 58 4=[15,14,13,12,11]∧pol1.dead 58 5=[17,16,8,7,5,1,0]∧pol1.dead 58 6=[18]∧pol1.dead 58 7=[]∧(∀ r,pol1.racts 58 r=[])∧pol1.bdead 58 0=[9,8,7,1,0]∧pol1.bdead 58 1=[16,5]:=by and_intros<;>first|kernel_rfl|exact fun r=>rfl
theorem dd59:pol1.dead 59 0=[4]∧pol1.dead 59 1=[11,10,9,8,7,6,5]∧pol1.dead 59 2=[14,13,12,2,0]∧pol1.dead 59 3=[16,15,1]∧(∀ r,pol1.racts 59 r=[]):=by and_intros<;>first|kernel_rfl|exact fun r=>rfl
theorem dd60:pol1.dead 60 0=[6,5]∧pol1.dead 60 1=[13,12,11,10,9,8,7,4,1,0]∧(∀ r,pol1.racts 60 r=[]):=by and_intros<;>first|kernel_rfl|exact fun r=>rfl
theorem dd61:pol1.dead 61 0=[4,1,0]∧pol1.dead 61 1=[9,8,7,6,5,3,2]∧(∀ r,pol1.racts 61 r=[]):=by and_intros<;>first|kernel_rfl|exact fun r=>rfl
theorem dd62:pol1.dead 62 0=[4]∧pol1.dead 62 1=[8,7]∧pol1.dead 62 2=[10,9]∧pol1.dead 62 3=[5]∧pol1.dead 62 4=[11,6,1,0]∧pol1.dead 62 5=[12]∧pol1.dead 62 6=[12]∧pol1.dead 62 7=[11,6]∧pol1.dead 62 8=[13,1,0]∧pol1.dead 62 9=[15,14,13]∧pol1.dead 62 10=[16,1,0]∧pol1.dead 62 11=[18,17,16,1,0]∧pol1.dead 62 12=[19]∧pol1.dead 62 13=[19]∧(∀ r,pol1.racts 62 r=[]):=by and_intros<;>first|kernel_rfl|exact fun r=>rfl
theorem dd63:pol1.dead 63 0=[6,5]∧pol1.dead 63 1=[13,12,11,10,9,8,7,4,1,0]∧(∀ r,pol1.racts 63 r=[]):=by and_intros<;>first|kernel_rfl|exact fun r=>rfl
theorem dd64:pol1.dead 64 0=[5]∧pol1.dead 64 1=[22,21,20,19,18,17,16,15,14,13,12,11,10,9,8,7,6,2,1,0]∧(∀ r,pol1.racts 64 r=[])∧(∀ r,pol1.alts 64 r=none):=by and_intros<;>first|kernel_rfl|exact fun r=>rfl
theorem dd65:pol1.dead 65 0=[10,9,8,1]∧pol1.dead 65 1=[12,11]∧pol1.dead 65 2=[19,18,17,16,15,14,13]∧pol1.dead 65 3=[24,23,22,21,20]∧pol1.dead 65 4=[28,27,26,25]∧pol1.dead 65 5=[34,33,32,31,30,29]∧pol1.dead 65 6=[35]∧pol1.dead 65 7=[38]∧pol1.dead 65 8=[51,50,49,48,47,46,45,44,43,42,41,40,39,37,36,7,6]∧pol1.dead 65 9=[53,37]∧pol1.dead 65 10=[61,60,59,58,57,56,55,54,52,36,7,6]∧pol1.dead 65 11=[63,52]∧pol1.dead 65 12=[67,66,65,64,62,36,7]∧pol1.dead 65 13=[76,75,74,73,72,71,70,69,68,6]∧pol1.dead 65 14=[78,62,7]∧pol1.dead 65 15=[79,36]∧pol1.dead 65 16=[85,84,83,82,81,80,77,36,6]∧(∀ r,pol1.racts 65 r=[])∧pol1.bdead 65 0=[13,5,3,2,0]∧pol1.bdead 65 1=[]∧pol1.bdead 65 2=[86,77,36,6]:=by and_intros<;>first|kernel_rfl|exact fun r=>rfl
theorem dd66:pol1.dead 66 0=[3]∧pol1.dead 66 1=[12,11,10,9,8,7,6,5,4,1,0]∧(∀ r,pol1.racts 66 r=[]):=by and_intros<;>first|kernel_rfl|exact fun r=>rfl
theorem dd67:pol1.dead 67 0=[2]∧pol1.dead 67 1=[]∧pol1.dead 67 2=[]∧pol1.dead 67 3=[11,10,9,8]∧pol1.dead 67 4=[29,28,27,26,25,24,23,22,21,20,19,18,17,16,15,14,13,12,4,3]∧pol1.dead 67 5=[30,7,6,5,0]∧pol1.dead 67 6=[31]∧pol1.dead 67 7=[33,32,0]∧pol1.dead 67 8=[34]∧pol1.dead 67 9=[34]∧(∀ r,pol1.racts 67 r=[])∧(∀ r,pol1.alts 67 r=none)∧pol1.bdead 67 0=[8,7,6,5]∧pol1.bdead 67 1=[30]:=by and_intros<;>first|kernel_rfl|exact fun r=>rfl
theorem dd70:pol1.dead 70 0=[2]∧pol1.dead 70 1=[5,4,3,0]∧(∀ r,pol1.racts 70 r=[]):=by and_intros<;>first|kernel_rfl|exact fun r=>rfl
theorem dd72:pol1.dead 72 0=[2,0]∧pol1.dead 72 1=[17,16,15,14,13,12,11,10,9,8,7,6,5,4,3,1]∧(∀ r,pol1.racts 72 r=[]):=by and_intros<;>first|kernel_rfl|exact fun r=>rfl
theorem mu3:pol1.muts 3=[2000101,2000116]:=rfl
theorem mu4:pol1.muts 4=[]:=rfl
theorem mu5:pol1.muts 5=[]:=rfl
theorem mu6:pol1.muts 6=[]:=rfl
theorem mu7:pol1.muts 7=[]:=rfl
theorem mu8:pol1.muts 8=[]:=rfl
theorem mu9:pol1.muts 9=[]:=rfl
theorem mu10:pol1.muts 10=[]:=rfl
theorem mu11:pol1.muts 11=[]:=rfl
theorem mu12:pol1.muts 12=[]:=rfl
theorem mu13:pol1.muts 13=[]:=rfl
theorem mu15:pol1.muts 15=[]:=rfl
theorem mu17:pol1.muts 17=[]:=rfl
theorem mu18:pol1.muts 18=[]:=rfl
theorem mu19:pol1.muts 19=[]:=rfl
theorem mu20:pol1.muts 20=[]:=rfl
theorem mu21:pol1.muts 21=[]:=rfl
theorem mu22:pol1.muts 22=[]:=rfl
theorem mu23:pol1.muts 23=[]:=rfl
theorem mu24:pol1.muts 24=[]:=rfl
theorem mu25:pol1.muts 25=[12]:=rfl
theorem mu26:pol1.muts 26=[]:=rfl
theorem mu27:pol1.muts 27=[]:=rfl
theorem mu28:pol1.muts 28=[]:=rfl
theorem mu29:pol1.muts 29=[]:=rfl
theorem mu30:pol1.muts 30=[]:=rfl
theorem mu31:pol1.muts 31=[]:=rfl
theorem mu32:pol1.muts 32=[]:=rfl
theorem mu33:pol1.muts 33=[]:=rfl
theorem mu34:pol1.muts 34=[]:=rfl
theorem mu35:pol1.muts 35=[]:=rfl
theorem mu36:pol1.muts 36=[]:=rfl
theorem mu37:pol1.muts 37=[]:=rfl
theorem mu38:pol1.muts 38=[]:=rfl
theorem mu39:pol1.muts 39=[]:=rfl
theorem mu40:pol1.muts 40=[]:=rfl
theorem mu41:pol1.muts 41=[]:=rfl
theorem mu42:pol1.muts 42=[]:=rfl
theorem mu43:pol1.muts 43=[]:=rfl
theorem mu44:pol1.muts 44=[]:=rfl
theorem mu45:pol1.muts 45=[]:=rfl
theorem mu46:pol1.muts 46=[]:=rfl
theorem mu47:pol1.muts 47=[]:=rfl
theorem mu48:pol1.muts 48=[]:=rfl
theorem mu49:pol1.muts 49=[]:=rfl
theorem mu50:pol1.muts 50=[]:=rfl
theorem mu51:pol1.muts 51=[]:=rfl
theorem mu52:pol1.muts 52=[]:=rfl
theorem mu53:pol1.muts 53=[]:=rfl
theorem mu54:pol1.muts 54=[]:=rfl
theorem mu55:pol1.muts 55=[]:=rfl
theorem mu56:pol1.muts 56=[]:=rfl
theorem mu57:pol1.muts 57=[]:=rfl
theorem mu58:pol1.muts 58=[]:=rfl
theorem mu59:pol1.muts 59=[]:=rfl
theorem mu60:pol1.muts 60=[]:=rfl
theorem mu61:pol1.muts 61=[]:=rfl
theorem mu62:pol1.muts 62=[]:=rfl
theorem mu63:pol1.muts 63=[]:=rfl
theorem mu64:pol1.muts 64=[]:=rfl
theorem mu65:pol1.muts 65=[10]:=rfl
theorem mu66:pol1.muts 66=[]:=rfl
theorem mu67:pol1.muts 67=[]:=rfl
theorem mu70:pol1.muts 70=[]:=rfl
theorem mu72:pol1.muts 72=[]:=rfl
attribute [go_sem] eq_self zAT zBA zBi zBQ zHu zCO zEe zEf zDA zHv zEc zEd zC8 zC9 zDB zA3 zBP zA4 zEg zDC zCP zEi zDE zCQ guardV zAq zAr zAk zCJ zCK footprint footprint0 fineF zBF zBa zBG zCA zCB zEV zEW zC5 zCv zCE zCt zCu zCw zCz zCG zCx zCy zCF zCs zCD zCq zCr zCC evOp evBuiltin evCall cfn yldF evLen zBN zBe List.length_cons List.length_nil List.cons_append List.nil_append List.append_nil if_false if_true Bool.false_eq_true Bool.true_eq_false Option.map_some Option.map_none List.map_cons List.map_nil evBinOp evBin evUn zBn zAl zAd zAb zBJ zBI zBH zCM zBf List.getElem?_cons_zero List.getElem?_cons_succ evResults evResult packRes zBb zB7 cellsAt mkVal evFieldAddr evField evIndexAddr evPart evStore evBuildSlice fillC fillE evSlice evMakeSlice evConvert getRow AV.cells List.head?_cons List.drop_zero List.drop_succ_cons List.take_zero List.take_succ_cons List.drop_nil List.take_nil List.all_cons List.all_nil AV.ok Bool.and_self Bool.and_true Bool.true_and and_self and_true true_and Nat.zero_add Nat.add_zero setCells pairsOk pairsX zBk zBj zEb zEh zDD FP.apart zAv sameAt_refl Bool.or_true Bool.true_or Bool.or_false srcElems elemsOf mutDst indDst thwDst evLenH evMapUpd evLookup getMp keyOk resOk strOf zAz zA0 zBK List.length_map List.getElem?_map Int.toNat_natCast decide_true decide_false Bool.not_true Bool.not_false List.set zG3 zG2 zG1 zG0 zGz zCI look zBd zBM zBc zC2 ins zCo upd zB8 rem1 dropT zBh initT zEZ zEa zEY zCN zBl act1 zB4 updT frzB zJ0 zKe bndO bnd evEq eqCells not_false_eq_true not_true_eq_false zH0 Array.size_empty zKO zKo zJJ List.contains_nil List.contains_cons Bool.or_self zJQ zJR zJS zJT zJU zJV zJW zJX zJh zJi zJf zJg lt_T le_T zJF zJG Go.IntWalk.i64_in Go.IntWalk.i64_quo Go.IntWalk.rem_in ty0 ty3 ty4 ty5 ty22 ty25 ty26 ty28 ty30 ty31 ty32 ty34 ty36 ty38 ty39 ty42 ty43 ty44 ty47 ty49 ty50 ty52 ty55 ty59 ty62 ty63 ty67 ty71 ty73 ty74 ty79 ty80 ty82 ty83 ty88 ty91 ty92 ty95 ty99 zMC zMB zMA zL9 zL8 zL7 zL6 zL5 zL4 zL3 zL2 zL1 zL0 zLz zLy zK1 zLx zLw
end Go.Ev
