/- What examine's walk comes to: plain. -/
import Derived.Test.YtmfpcondongbjaaGreatM13
import Derived.Shelf.SlLaysF0
import Derived.Shelf.SlLaysF
import Derived.Shelf.SlSortCmp.NoneTotal
import Derived.Shelf.SlSortCmp.Whole1
set_option linter.unusedVariables false
set_option linter.unusedSimpArgs false
open List (append_nil getElem?_eq_getElem head?_drop length_append length_cons length_nil map_append map_id map_map map_take mem_append mem_cons mem_filter mem_map mem_of_getElem? pairwise_cons)
open Go.Proofs Go.RowKit Go.IntWalk
set_option maxHeartbeats 16000000
set_option maxRecDepth 100000
namespace Go.Ev
def SpOk (l:List (Int×Int)):Prop:=(∀ p∈l,0<=p.1/\p.1<=p.2/\p.2<=1114111)/\l.Pairwise (fun p q=>p.2<q.1)
structure OkP (ins:List Ins):Prop where
 pos:0<ins.length
 len:ins.length<=8192
 ops:∀ i∈ins,i.op=0∨i.op=1∨i.op=2∨i.op=3∨i.op=4
 leads:LeadsR ins
 sym:∀ n i,ins[n]?=some i->i.op=1->n+1<ins.length
 sets:∀ i∈ins,SpOk i.set/\i.set.length<=64
theorem OkP.in1 {ins:List Ins} (h:OkP ins):In1 ins:=by
 intro n i hi b hb;unfold nexts at hb;split at hb
 ·rename_i h2;simp at hb;rcases hb with rfl|rfl
  ·exact((h.leads n i hi).1 (.inl h2)).2
  ·exact((h.leads n i hi).2.1 h2).2
 ·split at hb
  ·rename_i h3;simp at hb;subst hb;exact((h.leads n i hi).1 (.inr h3)).2
  ·split at hb
   ·rename_i h4;simp at hb;subst hb;exact((h.leads n i hi).2.2 h4).1
   ·simp at hb
def esStop (ins:List Ins) (s:ES) (l:List Nat):ES:=l.foldl (fun s a=>esY ins s a) s
def ES0 (n:Nat):ES:=⟨List.replicate n false,false,[],[],0⟩
def enE (s:ES) (a:Nat):Bool×ES:=(!(s.fk||s.came.getD a false),{ s with came:=s.came.set a true,fk:=s.fk||s.came.getD a false })
def yiE (ins:List Ins) (s:ES) (a:Nat) (_:List Bool):Bool×ES:=(true,esY ins s a)
def runE (ins:List Ins) (st:Nat):Option ES:=runS ins enE (yiE ins) (ins.length+1) [(st,m0S)] (ES0 ins.length)
structure RE1 (ins:List Ins) (s:ES) (w:WS):Prop where
 len:s.came.length=ins.length
 came:∀ a,a<ins.length->s.came.getD a false=decide (a∈w.seen)
 fk:s.fk=false
 tw:w.tw=false
 stops:(s.rd,s.sp,s.dn)=((esStop ins (ES0 ins.length) w.stops).rd,(esStop ins (ES0 ins.length) w.stops).sp,(esStop ins (ES0 ins.length) w.stops).dn)
theorem Di (ins:List Ins) (s:ES) (a:Nat):(esY ins s a).came=s.came/\(esY ins s a).fk=s.fk:=by
 unfold esY;split
 ·split
  ·exact⟨rfl,rfl⟩
  ·split<;>exact⟨rfl,rfl⟩
 ·exact⟨rfl,rfl⟩
theorem K6 (ins:List Ins) (s t:ES) (a:Nat) (h:(s.rd,s.sp,s.dn)=(t.rd,t.sp,t.dn)):((esY ins s a).rd,(esY ins s a).sp,(esY ins s a).dn)=((esY ins t a).rd,(esY ins t a).sp,(esY ins t a).dn):=by
 simp only[Prod.mk.injEq]at h;obtain⟨h1,h2,h3⟩:=h;unfold esY;split
 ·split
  ·simp[h1,h2,h3]
  ·split<;>simp[h1,h2,h3]
 ·simp[h1,h2,h3]
theorem EO {ins:List Ins} (h:OkP ins):∀(k:Nat) (stk:Stk) (s:ES) (w:WS),RE1 ins s w->w.Ok ins.length->ins.length<k+w.seen.length->(∀ x∈stk,x.1<ins.length) ->
  ∃ sF,runS ins enE (yiE ins) k stk s=some sF/\sF.fk=(visF ins (stk.map (·.1)) w).tw/\((visF ins (stk.map (·.1)) w).tw=false->RE1 ins sF (visF ins (stk.map (·.1)) w))
 | k,[],s,w,hr,hw,hk,_=>⟨s,by cases k<;>rfl,by simp[FB,hr.fk,hr.tw],fun _=>by simpa [FB] using hr⟩
 | 0,_::_,s,w,hr,hw,hk,_=>absurd hw.len (by omega)
 | k+1,(a,m)::rest,s,w,hr,hw,hk,hst=>by
   have ha:a<ins.length:=hst (a,m) (by simp);obtain⟨i,hi⟩:∃ i,ins[a]?=some i:=⟨_,getElem?_eq_getElem ha⟩;have hca:=hr.came a ha;have hen:enE s a=(!(s.fk||decide (a∈w.seen)),{ s with came:=s.came.set a true,fk:=s.fk||decide (a∈w.seen) }):=by unfold enE;rw[hca]
   simp only[runS,List.map_cons];by_cases hs:a∈w.seen
   ·rw[CZ (.inr hs)];have e1:(enE s a).1=false:=by simp[hen,hs]
    rw[e1];exact⟨_,rfl,by simp[hen,hs],fun h=>by simp at h⟩
   ·have e1:(enE s a).1=true:=by simp[hen,hs,hr.fk]
    rw[e1,C5 hw hr.tw hs hi];simp only[hi];have hl:(stepS w i a).seen.length=w.seen.length+1:=by simp[stepS]
    have hok:=hw.step hs hi;have hs2:(enE s a).2 = { s with came:=s.came.set a true,fk:=false }:=by simp[hen,hs,hr.fk]
    have hcame:∀ b,b<ins.length->(s.came.set a true).getD b false=decide (b∈w.seen++[a]):=fun b hb=>by
     have:=hr.came b hb;rw[List.getD_eq_getElem?_getD]at this |-;by_cases e:a=b
     ·subst e;rw[List.getElem?_set_self (by rw[hr.len];exact ha)];simp
     ·rw[List.getElem?_set_ne e,this];have:¬ b=a:=fun h=>e h.symm;simp[this]
    have hrest:∀ x∈rest,x.1<ins.length:=fun x hx=>hst x (List.mem_cons_of_mem _ hx);rw[hs2];have go:∀ stk2:Stk,stk2.map (·.1)=nexts i a->stopB i=false->(∀ x∈stk2,x.1<ins.length)->∃ sF,runS ins enE (yiE ins) k (stk2++rest) { s with came:=s.came.set a true,fk:=false } = some sF/\sF.fk=(visF ins (nexts i a++rest.map (·.1)) (stepS w i a)).tw/\((visF ins (nexts i a++rest.map (·.1)) (stepS w i a)).tw=false->RE1 ins sF (visF ins (nexts i a++rest.map (·.1)) (stepS w i a))):=by
     intro stk2 e2 e3 e4;have:=EO h k (stk2++rest) { s with came:=s.came.set a true,fk:=false } (stepS w i a) ⟨by simpa using hr.len,hcame,rfl,rfl,by simpa [stepS,e3] using hr.stops⟩ hok (by rw[hl];omega) (fun x hx=>(mem_append.1 hx).elim (e4 x) (hrest x))
     rwa [map_append,e2]at this
    rcases h.ops i (mem_of_getElem? hi) with h0|h0|h0|h0|h0
    ·rw[if_neg (by omega),if_neg (by omega),if_neg (by omega),if_pos (.inr h0)];simp only[yiE];have hn:nexts i a=[]:=by simp[nexts,h0]
     rw[hn,List.nil_append];refine EO h k rest _ (stepS w i a) ⟨?_,?_,?_,rfl,?_⟩ hok (by rw[hl];omega) hrest
     ·rw[(Di ins _ a).1];simpa using hr.len
     ·rw[(Di ins _ a).1];exact hcame
     ·rw[(Di ins _ a).2]
     ·have hst':(stepS w i a).stops=w.stops++[a]:=by simp[stepS,stopB,h0]
      rw[hst'];unfold esStop;rw[List.foldl_append];exact K6 ins _ _ a hr.stops
    ·rw[if_neg (by omega),if_neg (by omega),if_neg (by omega),if_pos (.inl h0)];simp only[yiE];have hn:nexts i a=[]:=by simp[nexts,h0]
     rw[hn,List.nil_append];refine EO h k rest _ (stepS w i a) ⟨?_,?_,?_,rfl,?_⟩ hok (by rw[hl];omega) hrest
     ·rw[(Di ins _ a).1];simpa using hr.len
     ·rw[(Di ins _ a).1];exact hcame
     ·rw[(Di ins _ a).2]
     ·have hst':(stepS w i a).stops=w.stops++[a]:=by simp[stepS,stopB,h0]
      rw[hst'];unfold esStop;rw[List.foldl_append];exact K6 ins _ _ a hr.stops
    ·rw[if_pos h0];exact go [(i.x.toNat,m),(i.y.toNat,m)] (by simp[nexts,h0]) (by simp[stopB,h0]) (fun x hx=>by
      have h1:=(h.leads a i hi).1 (.inl h0);have h2:=(h.leads a i hi).2.1 h0;simp at hx;rcases hx with rfl|rfl
      ·exact h1.2
      ·exact h2.2)
    ·rw[if_neg (by omega),if_pos h0];exact go [(i.x.toNat,m)] (by simp[nexts,h0]) (by simp[stopB,h0]) (fun x hx=>by
      have h1:=(h.leads a i hi).1 (.inr h0);simp at hx;subst hx;exact h1.2)
    ·rw[if_neg (by omega),if_neg (by omega),if_pos h0];exact go [(a+1,m.set i.n.toNat true)] (by simp[nexts,h0]) (by simp[stopB,h0]) (fun x hx=>by
      have h1:=(h.leads a i hi).2.2 h0;simp at hx;subst hx;exact h1.1)
theorem Ih {ins:List Ins} (h:OkP ins) {st:Nat} (hst:st<ins.length):∃ sF,runE ins st=some sF/\sF.fk=(fromS ins st).tw /\
  ((fromS ins st).tw=false->sF.rd=(esStop ins (ES0 ins.length) (fromS ins st).stops).rd/\sF.sp=(esStop ins (ES0 ins.length) (fromS ins st).stops).sp/\sF.dn=(esStop ins (ES0 ins.length) (fromS ins st).stops).dn):=by
 obtain⟨sF,h1,h2,h3⟩:=EO h (ins.length+1) [(st,m0S)] (ES0 ins.length) w0S ⟨by simp[ES0],fun a ha=>by simp[ES0,w0S,List.getD_eq_getElem?_getD,ha],rfl,rfl,rfl⟩ (JN _) (by simp[w0S]) (fun x hx=>by simp at hx;subst hx;exact hst);refine⟨sF,h1,h2,fun h=>?_⟩;have:=(h3 h).stops;simp only[Prod.mk.injEq]at this;exact this
end Go.Ev
namespace Go.Ev
attribute [local go_sem] BM evBin evBuild evMakeSlice AV.cells AV.ok splice Ae Al bndO bnd evEq eqCells not_false_eq_true not_true_eq_false AX Array.size_empty length_append map_append tySzE head?_drop Nat.mul_one AQ AU AO AR AS AY
section
attribute [local go_sem] evAppend
def PrE (ins:List Ins) (k:Nat) (s:ES):Prop:=s.came.length=ins.length/\s.rd.length+s.dn+k<=20002/\s.sp.length<=64*s.rd.length
theorem r75 {ins:List Ins} (h:OkP ins) {st:Nat} (hst:st<ins.length) (c:Code×Code) (hc:c=rfOf Pg 75):∃ sF,runE ins st=some sF /\
  call Pg pol1 111 [.yld 12,.rf 10 1 0 0,.rf 11 1 0 0,.rf 9 1 0 0] (exH ins st c .ready (ES0 ins.length) [])=some (.tup [],exH ins st c .ready sF []):=by
 obtain⟨sF,hF,_⟩:=Ih h hst;refine⟨sF,hF,?_⟩;have hl:=h.len;refine f111 (fun s=>exH ins st c .ready s []) (PrE ins) ins 13 12 10 11 9 105 st [.rf 3 1 0 0,.rf 2 1 0 0] enE (yiE ins) (fun s=>rfl) ?_ (eq_false (by decide)) (by omega) hst h.leads (fun s=>rfl) (fun s=>rfl) (fun s=>rfl) (by decide) ?_ ?_ ?_ ?_ ?_ (ins.length+1) (ES0 ins.length) sF ?_ (by omega) hF
 ·intro s n hn;have h1:=AE n _ (AH ins);have h2:=AE n _ (Bz s.came);have h3:=AE n _ (FL s.rd);have h4:=AE n _ (AG s.sp);simp[exH,exA,MB.under,AV.underL,AV.under,h1,h2,h3,h4];omega
 ·intro f s a K hP ha;obtain⟨b,hb⟩:∃ b,s.came[a]?=some b:=⟨_,getElem?_eq_getElem (by rw[hP.1];exact ha)⟩;have:=f105 (.row 1 [.sl false (ins.map insAV)] 0) s.came s.fk a b (.row 1 [.ms 7 1 s.rd.length 0 s.rd.length] 0::.row 1 [.ms 8 2 s.sp.length 0 s.sp.length] 0::.row 1 [NV s.dn] 0::.row 1 (s.rd.map NV) 0::.row 2 (s.sp.map spanAV) 0::.row 1 [.sl false (ins.map insAV)] 0::.row 1 [NV st] 0::.row 1 [.clo 105 [.rf 3 1 0 0,.rf 2 1 0 0]] 0::.lp .ready 75 79 tm75 [22,23] c::K) hb;have hbd:s.came.getD a false=b:=by rw[List.getD_eq_getElem?_getD,hb];rfl
  rw[hP.1]at this;unfold enE;rw[hbd];exact this
 ·intro f s a m K hP ha hm;refine⟨[],?_⟩;rw[append_nil];have hP1:=hP.2.1;have hP2:=hP.2.2;exact y75 ins st c hc s a m K (by omega) ha (by omega) (by omega) (fun i hi=>by
   have:=(h.sets i (mem_of_getElem? hi)).2;omega)
 ·intro f s a hP ha;exact⟨by simpa [enE] using hP.1,hP.2⟩
 ·intro f s a m hP _ _;have hP1:=hP.2.1;have hP2:=hP.2.2;have hP0:=hP.1;simp only[yiE];unfold PrE esY;cases hi:ins[a]? with
  | none=>exact⟨hP0,by simp only;omega,hP2⟩
  | some i=>
    have:=(h.sets i (mem_of_getElem? hi)).2;by_cases h0:i.op=0
    ·simp only[h0,if_true];exact⟨hP0,by omega,hP2⟩
    ·by_cases hs:0<i.set.length
     ·simp only[h0,hs,if_true,if_false];exact⟨hP0,by simp only[length_append,length_cons,length_nil];omega,by simp only[length_append,length_cons,length_nil];omega⟩
     ·simp only[h0,hs,if_false];exact⟨hP0,by omega,hP2⟩
 ·intro f s hP;exact⟨hP.1,by have:=hP.2.1;omega,hP.2.2⟩
 ·exact⟨by simp[ES0],by simp[ES0];omega,by simp[ES0]⟩
end
end Go.Ev
namespace Go.Proofs
open Go.Shelf
def Tryz.sortL_ren:Go.Shelf.Ren:=⟨fun|6=>106|15=>139|14=>138|28=>163|29=>164|20=>155|21=>156|22=>157|23=>158|24=>159|25=>160|26=>161|27=>162|46=>184|47=>185|48=>186|49=>187|50=>188|57=>194|n=>n,fun|22=>60|24=>84|25=>191|3=>3|39=>223|0=>0|53=>240|55=>242|4=>4|46=>233|45=>232|50=>237|5=>5|9=>9|66=>255|70=>259|76=>263|77=>264|n=>n,fun|n=>n⟩
theorem Tryz.sortL:Go.Proofs.SlLaysF0.n6 Tryz.prog Tryz.sortL_ren:={
 mixed:=by kernel_rfl
 f6:=⟨Tryz.f106.name,by decide,Tryz.func106.trans (congrArg some (by kernel_rfl))⟩
 f14:=⟨Tryz.f138.name,by decide,Tryz.func138.trans (congrArg some (by kernel_rfl))⟩
 f15:=Tryz.func139.trans (congrArg some (by kernel_rfl))
 f20:=⟨Tryz.f155.name,by decide,Tryz.func155.trans (congrArg some (by kernel_rfl))⟩
 f21:=⟨Tryz.f156.name,by decide,Tryz.func156.trans (congrArg some (by kernel_rfl))⟩
 f22:=⟨Tryz.f157.name,by decide,Tryz.func157.trans (congrArg some (by kernel_rfl))⟩
 f23:=⟨Tryz.f158.name,by decide,Tryz.func158.trans (congrArg some (by kernel_rfl))⟩
 f24:=⟨Tryz.f159.name,by decide,Tryz.func159.trans (congrArg some (by kernel_rfl))⟩
 f25:=⟨Tryz.f160.name,by decide,Tryz.func160.trans (congrArg some (by kernel_rfl))⟩
 f26:=⟨Tryz.f161.name,by decide,Tryz.func161.trans (congrArg some (by kernel_rfl))⟩
 f27:=⟨Tryz.f162.name,by decide,Tryz.func162.trans (congrArg some (by kernel_rfl))⟩
 f28:=Tryz.func163.trans (congrArg some (by kernel_rfl))
 f29:=Tryz.func164.trans (congrArg some (by kernel_rfl))
 f46:=⟨Tryz.f184.name,by decide,Tryz.func184.trans (congrArg some (by kernel_rfl))⟩
 f47:=Tryz.func185.trans (congrArg some (by kernel_rfl))
 f48:=Tryz.func186.trans (congrArg some (by kernel_rfl))
 f49:=⟨Tryz.f187.name,by decide,Tryz.func187.trans (congrArg some (by kernel_rfl))⟩
 f50:=⟨Tryz.f188.name,by decide,Tryz.func188.trans (congrArg some (by kernel_rfl))⟩
 f57:=⟨Tryz.f194.name,by decide,Tryz.func194.trans (congrArg some (by kernel_rfl))⟩
 t0:=Tryz.underlying0
 a0:=Tryz.isAgg0
 z0:=Tryz.sizeOf0
 v0:=Tryz.zeroValue0
 t3:=Tryz.underlying3
 a3:=Tryz.isAgg3
 z3:=Tryz.sizeOf3
 v3:=Tryz.zeroValue3
 t4:=Tryz.underlying4
 a4:=Tryz.isAgg4
 z4:=Tryz.sizeOf4
 v4:=Tryz.zeroValue4
 t5:=Tryz.underlying5
 a5:=Tryz.isAgg5
 z5:=Tryz.sizeOf5
 v5:=Tryz.zeroValue5
 t9:=Tryz.underlying9
 a9:=Tryz.isAgg9
 z9:=Tryz.sizeOf9
 v9:=Tryz.zeroValue9
 t22:=Tryz.underlying60
 a22:=Tryz.isAgg60
 z22:=Tryz.sizeOf60
 v22:=Tryz.zeroValue60
 t25:=Tryz.underlying191
 a25:=Tryz.isAgg191
 z25:=Tryz.sizeOf191
 v25:=Tryz.zeroValue191
 t39:=Tryz.underlying223
 a39:=Tryz.isAgg223
 z39:=Tryz.sizeOf223
 v39:=Tryz.zeroValue223
 t45:=Tryz.underlying232
 a45:=Tryz.isAgg232
 z45:=Tryz.sizeOf232
 v45:=Tryz.zeroValue232
 t46:=Tryz.underlying233
 a46:=Tryz.isAgg233
 z46:=Tryz.sizeOf233
 v46:=Tryz.zeroValue233
 t50:=Tryz.underlying237
 a50:=Tryz.isAgg237
 z50:=Tryz.sizeOf237
 v50:=Tryz.zeroValue237
 t53:=Tryz.underlying240
 a53:=Tryz.isAgg240
 z53:=Tryz.sizeOf240
 v53:=Tryz.zeroValue240
 t55:=Tryz.underlying242
 a55:=Tryz.isAgg242
 z55:=Tryz.sizeOf242
 v55:=Tryz.zeroValue242
 t66:=Tryz.underlying255
 a66:=Tryz.isAgg255
 z66:=Tryz.sizeOf255
 v66:=Tryz.zeroValue255
 t70:=Tryz.underlying259
 a70:=Tryz.isAgg259
 z70:=Tryz.sizeOf259
 v70:=Tryz.zeroValue259
 t76:=Tryz.underlying263
 a76:=Tryz.isAgg263
 z76:=Tryz.sizeOf263
 v76:=Tryz.zeroValue263
 t77:=Tryz.underlying264
 a77:=Tryz.isAgg264
 z77:=Tryz.sizeOf264
 v77:=Tryz.zeroValue264 }
def Tryz.sortI_ren:Go.Shelf.Ren:=⟨fun|6=>109|15=>139|14=>141|28=>163|29=>164|20=>165|21=>166|22=>167|23=>168|24=>169|25=>170|26=>171|27=>172|46=>189|47=>185|48=>186|49=>190|50=>191|57=>195|n=>n,fun|22=>22|24=>3|25=>49|3=>3|39=>223|0=>0|53=>240|55=>242|4=>4|46=>233|45=>232|50=>237|5=>5|9=>9|66=>255|70=>259|76=>263|77=>264|n=>n,fun|n=>n⟩
theorem Tryz.sortI:Go.Proofs.SlLaysF0.n6 Tryz.prog Tryz.sortI_ren:={
 mixed:=by kernel_rfl
 f6:=⟨Tryz.f109.name,by decide,Tryz.func109.trans (congrArg some (by kernel_rfl))⟩
 f14:=⟨Tryz.f141.name,by decide,Tryz.func141.trans (congrArg some (by kernel_rfl))⟩
 f15:=Tryz.func139.trans (congrArg some (by kernel_rfl))
 f20:=⟨Tryz.f165.name,by decide,Tryz.func165.trans (congrArg some (by kernel_rfl))⟩
 f21:=⟨Tryz.f166.name,by decide,Tryz.func166.trans (congrArg some (by kernel_rfl))⟩
 f22:=⟨Tryz.f167.name,by decide,Tryz.func167.trans (congrArg some (by kernel_rfl))⟩
 f23:=⟨Tryz.f168.name,by decide,Tryz.func168.trans (congrArg some (by kernel_rfl))⟩
 f24:=⟨Tryz.f169.name,by decide,Tryz.func169.trans (congrArg some (by kernel_rfl))⟩
 f25:=⟨Tryz.f170.name,by decide,Tryz.func170.trans (congrArg some (by kernel_rfl))⟩
 f26:=⟨Tryz.f171.name,by decide,Tryz.func171.trans (congrArg some (by kernel_rfl))⟩
 f27:=⟨Tryz.f172.name,by decide,Tryz.func172.trans (congrArg some (by kernel_rfl))⟩
 f28:=Tryz.func163.trans (congrArg some (by kernel_rfl))
 f29:=Tryz.func164.trans (congrArg some (by kernel_rfl))
 f46:=⟨Tryz.f189.name,by decide,Tryz.func189.trans (congrArg some (by kernel_rfl))⟩
 f47:=Tryz.func185.trans (congrArg some (by kernel_rfl))
 f48:=Tryz.func186.trans (congrArg some (by kernel_rfl))
 f49:=⟨Tryz.f190.name,by decide,Tryz.func190.trans (congrArg some (by kernel_rfl))⟩
 f50:=⟨Tryz.f191.name,by decide,Tryz.func191.trans (congrArg some (by kernel_rfl))⟩
 f57:=⟨Tryz.f195.name,by decide,Tryz.func195.trans (congrArg some (by kernel_rfl))⟩
 t0:=Tryz.underlying0
 a0:=Tryz.isAgg0
 z0:=Tryz.sizeOf0
 v0:=Tryz.zeroValue0
 t3:=Tryz.underlying3
 a3:=Tryz.isAgg3
 z3:=Tryz.sizeOf3
 v3:=Tryz.zeroValue3
 t4:=Tryz.underlying4
 a4:=Tryz.isAgg4
 z4:=Tryz.sizeOf4
 v4:=Tryz.zeroValue4
 t5:=Tryz.underlying5
 a5:=Tryz.isAgg5
 z5:=Tryz.sizeOf5
 v5:=Tryz.zeroValue5
 t9:=Tryz.underlying9
 a9:=Tryz.isAgg9
 z9:=Tryz.sizeOf9
 v9:=Tryz.zeroValue9
 t22:=Tryz.underlying22
 a22:=Tryz.isAgg22
 z22:=Tryz.sizeOf22
 v22:=Tryz.zeroValue22
 t25:=Tryz.underlying49
 a25:=Tryz.isAgg49
 z25:=Tryz.sizeOf49
 v25:=Tryz.zeroValue49
 t39:=Tryz.underlying223
 a39:=Tryz.isAgg223
 z39:=Tryz.sizeOf223
 v39:=Tryz.zeroValue223
 t45:=Tryz.underlying232
 a45:=Tryz.isAgg232
 z45:=Tryz.sizeOf232
 v45:=Tryz.zeroValue232
 t46:=Tryz.underlying233
 a46:=Tryz.isAgg233
 z46:=Tryz.sizeOf233
 v46:=Tryz.zeroValue233
 t50:=Tryz.underlying237
 a50:=Tryz.isAgg237
 z50:=Tryz.sizeOf237
 v50:=Tryz.zeroValue237
 t53:=Tryz.underlying240
 a53:=Tryz.isAgg240
 z53:=Tryz.sizeOf240
 v53:=Tryz.zeroValue240
 t55:=Tryz.underlying242
 a55:=Tryz.isAgg242
 z55:=Tryz.sizeOf242
 v55:=Tryz.zeroValue242
 t66:=Tryz.underlying255
 a66:=Tryz.isAgg255
 z66:=Tryz.sizeOf255
 v66:=Tryz.zeroValue255
 t70:=Tryz.underlying259
 a70:=Tryz.isAgg259
 z70:=Tryz.sizeOf259
 v70:=Tryz.zeroValue259
 t76:=Tryz.underlying263
 a76:=Tryz.isAgg263
 z76:=Tryz.sizeOf263
 v76:=Tryz.zeroValue263
 t77:=Tryz.underlying264
 a77:=Tryz.isAgg264
 z77:=Tryz.sizeOf264
 v77:=Tryz.zeroValue264 }
def Tryz.sortJ_ren:Go.Shelf.Ren:=⟨fun|6=>109|15=>139|14=>141|28=>163|29=>164|20=>165|21=>166|22=>167|23=>168|24=>169|25=>170|26=>171|27=>172|46=>189|47=>185|48=>186|49=>190|50=>191|57=>195|n=>n,fun|22=>22|24=>3|25=>49|3=>3|39=>223|0=>0|53=>240|55=>242|4=>4|46=>233|45=>232|50=>237|5=>5|9=>9|66=>255|70=>259|76=>263|77=>264|n=>n,fun|n=>n⟩
theorem Tryz.sortJ:Go.Proofs.SlLaysF.n6 Tryz.prog Tryz.sortJ_ren:={
 mixed:=by kernel_rfl
 f6:=⟨Tryz.f109.name,by decide,Tryz.func109.trans (congrArg some (by kernel_rfl))⟩
 f14:=⟨Tryz.f141.name,by decide,Tryz.func141.trans (congrArg some (by kernel_rfl))⟩
 f15:=Tryz.func139.trans (congrArg some (by kernel_rfl))
 f20:=⟨Tryz.f165.name,by decide,Tryz.func165.trans (congrArg some (by kernel_rfl))⟩
 f21:=⟨Tryz.f166.name,by decide,Tryz.func166.trans (congrArg some (by kernel_rfl))⟩
 f22:=⟨Tryz.f167.name,by decide,Tryz.func167.trans (congrArg some (by kernel_rfl))⟩
 f23:=⟨Tryz.f168.name,by decide,Tryz.func168.trans (congrArg some (by kernel_rfl))⟩
 f24:=⟨Tryz.f169.name,by decide,Tryz.func169.trans (congrArg some (by kernel_rfl))⟩
 f25:=⟨Tryz.f170.name,by decide,Tryz.func170.trans (congrArg some (by kernel_rfl))⟩
 f26:=⟨Tryz.f171.name,by decide,Tryz.func171.trans (congrArg some (by kernel_rfl))⟩
 f27:=⟨Tryz.f172.name,by decide,Tryz.func172.trans (congrArg some (by kernel_rfl))⟩
 f28:=Tryz.func163.trans (congrArg some (by kernel_rfl))
 f29:=Tryz.func164.trans (congrArg some (by kernel_rfl))
 f46:=⟨Tryz.f189.name,by decide,Tryz.func189.trans (congrArg some (by kernel_rfl))⟩
 f47:=Tryz.func185.trans (congrArg some (by kernel_rfl))
 f48:=Tryz.func186.trans (congrArg some (by kernel_rfl))
 f49:=⟨Tryz.f190.name,by decide,Tryz.func190.trans (congrArg some (by kernel_rfl))⟩
 f50:=⟨Tryz.f191.name,by decide,Tryz.func191.trans (congrArg some (by kernel_rfl))⟩
 f57:=⟨Tryz.f195.name,by decide,Tryz.func195.trans (congrArg some (by kernel_rfl))⟩
 t0:=Tryz.underlying0
 a0:=Tryz.isAgg0
 z0:=Tryz.sizeOf0
 v0:=Tryz.zeroValue0
 t3:=Tryz.underlying3
 a3:=Tryz.isAgg3
 z3:=Tryz.sizeOf3
 v3:=Tryz.zeroValue3
 t4:=Tryz.underlying4
 a4:=Tryz.isAgg4
 z4:=Tryz.sizeOf4
 v4:=Tryz.zeroValue4
 t5:=Tryz.underlying5
 a5:=Tryz.isAgg5
 z5:=Tryz.sizeOf5
 v5:=Tryz.zeroValue5
 t9:=Tryz.underlying9
 a9:=Tryz.isAgg9
 z9:=Tryz.sizeOf9
 v9:=Tryz.zeroValue9
 t22:=Tryz.underlying22
 a22:=Tryz.isAgg22
 z22:=Tryz.sizeOf22
 v22:=Tryz.zeroValue22
 a24:=Tryz.isAgg3
 z24:=Tryz.sizeOf3
 t25:=Tryz.underlying49
 a25:=Tryz.isAgg49
 z25:=Tryz.sizeOf49
 v25:=Tryz.zeroValue49
 t39:=Tryz.underlying223
 a39:=Tryz.isAgg223
 z39:=Tryz.sizeOf223
 v39:=Tryz.zeroValue223
 t45:=Tryz.underlying232
 a45:=Tryz.isAgg232
 z45:=Tryz.sizeOf232
 v45:=Tryz.zeroValue232
 t46:=Tryz.underlying233
 a46:=Tryz.isAgg233
 z46:=Tryz.sizeOf233
 v46:=Tryz.zeroValue233
 t50:=Tryz.underlying237
 a50:=Tryz.isAgg237
 z50:=Tryz.sizeOf237
 v50:=Tryz.zeroValue237
 t53:=Tryz.underlying240
 a53:=Tryz.isAgg240
 z53:=Tryz.sizeOf240
 v53:=Tryz.zeroValue240
 t55:=Tryz.underlying242
 a55:=Tryz.isAgg242
 z55:=Tryz.sizeOf242
 v55:=Tryz.zeroValue242
 t66:=Tryz.underlying255
 a66:=Tryz.isAgg255
 z66:=Tryz.sizeOf255
 v66:=Tryz.zeroValue255
 t70:=Tryz.underlying259
 a70:=Tryz.isAgg259
 z70:=Tryz.sizeOf259
 v70:=Tryz.zeroValue259
 t76:=Tryz.underlying263
 a76:=Tryz.isAgg263
 z76:=Tryz.sizeOf263
 v76:=Tryz.zeroValue263
 t77:=Tryz.underlying264
 a77:=Tryz.isAgg264
 z77:=Tryz.sizeOf264
 v77:=Tryz.zeroValue264 }
end Go.Proofs
namespace Go.Ev
open Go.Proofs Go.Shelf Go.RowKit Go.Lib Go.Sort
theorem Sx:∀ args w,(callFunc 106 args).run Pg w=.ok (.enter 106 args) w:=enters_of Tryz.func106 (by kernel_rfl) rfl
theorem Sw:∀ args w,(callFunc 107 args).run Pg w=.ok (.enter 107 args) w:=enters_of Tryz.func107 (by kernel_rfl) rfl
theorem Sv:∀ args w,(callFunc 109 args).run Pg w=.ok (.enter 109 args) w:=enters_of Tryz.func109 (by kernel_rfl) rfl
theorem Su:∀ args w,(callFunc 110 args).run Pg w=.ok (.enter 110 args) w:=enters_of Tryz.func110 (by kernel_rfl) rfl
theorem RL:SortCon Pg 106 2:=fun α _ enc hk h1 cf hO g cb blk off cap d w eg hcmp hH hblk hsz=>
 AnyQ.slices_SortFunc_eq Tryz.sortL 2 Tryz.isAgg84 Tryz.sizeOf84 enc hk h1 cf hO g cb blk off cap d w eg hcmp hH hblk hsz
theorem Qs {α:Type} [Inhabited α] (enc:α->List Value) (d:Array α):flatK enc 1 d=(d.map fun x=>(enc x).headD undef)∨∃ x,(enc x).length≠1:=by
 by_cases h:∃ x,(enc x).length≠1
 ·exact .inr h
 ·left;have hk:∀ x,(enc x).length=1:=fun x=>Classical.byContradiction fun e=>h ⟨x,e⟩;refine ext_get! (by simp) fun t ht=>?_;have ht':t<d.size:=by simpa using ht
  rw[get_flatK _ _ _ t (by simpa using ht'),getElem!_pos _ t (by simpa using ht'),Nat.div_one,Nat.mod_one,getElem!_pos d t ht'];simp only[Array.getElem_map]
  match hx:enc d[t],hk d[t] with
  | [v],_=>rfl
theorem Jb {α:Type} [Inhabited α] (e:α->Value) (off:Nat) (d:Array α):putCells id off (d.map e)=putCells e off d:=by
 funext c
 unfold putCells;congr 1
 funext k x
 simp only[Array.size_map];split
 ·rename_i h;rw[getElem!_pos _ _ (by simp;omega),getElem!_pos d (k-off) (by omega)];simp
 ·rfl
theorem Lh {α:Type} [Inhabited α] (enc:α->List Value) (hk:∀ x,(enc x).length=1) (w:World) (blk off m:Nat) (dk:Array α) (os:Array Obj) :
  sortWorldK enc 1 w blk off m dk os=sortWorld (fun x=>(enc x).headD undef) w blk off m dk os:=by
 unfold sortWorldK sortWorld putRowK putRow;rcases Qs enc dk with h|⟨x,h⟩
 ·rw[h,Jb]
 ·exact absurd (hk x) h
theorem RK:SortCon Pg 109 1:=fun α _ enc hk h1 cf hO g cb blk off cap d w eg hcmp hH hblk hsz=>by
 have e:∀ x,[(enc x).headD undef]=enc x:=fun x=>by
  match hx:enc x,hk x with
  | [v],_=>rfl
 have hw:=Lh enc hk;refine(Any.slices_SortFunc_eq Tryz.sortJ (fun x=>(enc x).headD undef) ?_ cf hO g cb blk off cap d w eg ?_ ?_ hblk hsz).mono ?_
 ·intro x;refine h1 x _ ?_;have:=e x;rw[<- this];simp
 ·intro m os dk hs x y;rw[<- hw];exact hcmp m os dk hs x y
 ·intro j hj;have hf:flatK enc 1 d=d.map fun x=>(enc x).headD undef:=(Qs enc d).resolve_right fun⟨x,h⟩=>h (hk x);have hH':Go.Sort.Holds id w blk off (flatK enc 1 d):=hH;rw[hf]at hH';have:=hH' j (by simpa using hj);rw[getElem!_pos _ j (by simpa using hj)]at this;rw[getElem!_pos d j hj]
  simpa using this
 ·rintro ev w' ⟨h2,n,os,h3⟩;exact⟨h2,n,os,by rw[hw];exact h3⟩
theorem IB {args:List AV}{H H':List MB}{r:AV} (h:sortExt3 Pg 107 2 cmpLo args H=some (r,H')):CallSound Pg 106 args H r H':=
 F7 (fun vs w=>Sx vs w) (fun vs w=>Sw vs w) (fun p cap fv w=>AnyF.slices_SortFunc_none Tryz.sortL p cap fv w) RL h
theorem IA {args:List AV}{H H':List MB}{r:AV} (h:sortExt3 Pg 110 1 cmpKy args H=some (r,H')):CallSound Pg 109 args H r H':=
 F7 (fun vs w=>Sv vs w) (fun vs w=>Su vs w) (fun p cap fv w=>AnyF.slices_SortFunc_none Tryz.sortI p cap fv w) RK h
end Go.Ev
namespace Go.Ev
open Go.Proofs Go.RowKit
theorem ext0:∀ f g,pol0.ext f=some g->∀ args H r H',g args H=some (r,H')->CallSound Pg f args H r H':=by
 intro f g hg args H r H' h;have hf:(f=38/\g=cloneExt 2 16)∨(f=54/\g=ext49)∨(f=37/\g=cloneExtO 5 56)∨(f=106/\g=sortExt3 Pg 107 2 cmpLo)∨(f=109/\g=sortExt3 Pg 110 1 cmpKy)∨(f=102/\g=cloneExt 2 16):=by
  by_cases e:f=38
  ·subst e;have:pol0.ext 38=some (cloneExt 2 16):=rfl;rw[this]at hg;exact .inl ⟨rfl,(Option.some.inj hg).symm⟩
  by_cases e2:f=54
  ·subst e2;have:pol0.ext 54=some ext49:=rfl;rw[this]at hg;exact .inr (.inl ⟨rfl,(Option.some.inj hg).symm⟩)
  by_cases e3:f=37
  ·subst e3;have:pol0.ext 37=some (cloneExtO 5 56):=rfl;rw[this]at hg;exact .inr (.inr (.inl ⟨rfl,(Option.some.inj hg).symm⟩))
  by_cases e4:f=106
  ·subst e4;have:pol0.ext 106=some (sortExt3 Pg 107 2 cmpLo):=rfl;rw[this]at hg;exact .inr (.inr (.inr (.inl ⟨rfl,(Option.some.inj hg).symm⟩)))
  by_cases e5:f=109
  ·subst e5;have:pol0.ext 109=some (sortExt3 Pg 110 1 cmpKy):=rfl;rw[this]at hg;exact .inr (.inr (.inr (.inr (.inl ⟨rfl,(Option.some.inj hg).symm⟩))))
  by_cases e6:f=102
  ·subst e6;have:pol0.ext 102=some (cloneExt 2 16):=rfl;rw[this]at hg;exact .inr (.inr (.inr (.inr (.inr ⟨rfl,(Option.some.inj hg).symm⟩))))
  have:pol0.ext f=none:=by
   show (if f=38 then some (cloneExt 2 16) else if f=54 then some ext49 else if f=37 then some (cloneExtO 5 56) else if f=106 then some (sortExt3 Pg 107 2 cmpLo) else if f=109 then some (sortExt3 Pg 110 1 cmpKy) else if f=102 then some (cloneExt 2 16) else none)=none;rw[if_neg e,if_neg e2,if_neg e3,if_neg e4,if_neg e5,if_neg e6]
  rw[this]at hg;cases hg
 rcases hf with ⟨rfl,rfl⟩|⟨rfl,rfl⟩|⟨rfl,rfl⟩|⟨rfl,rfl⟩|⟨rfl,rfl⟩|⟨rfl,rfl⟩
 ·exact GQ (T:=60) (B:=4) (e:=84) (k:=2) (by_:=16) (ze:=.agg [.int .i64 0,.int .i64 0])
   Tryz.func38 rfl rfl rfl rfl (by kernel_rfl) (by kernel_rfl) (by omega) (by kernel_rfl) (by kernel_rfl) rfl rfl h
 ·exact Ky h
 ·exact Jx (T:=33) (B:=4) (e:=70) (k:=5) (by_:=56) (ze:=.agg [.int .i64 0,.int .i64 0,.int .i64 0,.int .i64 0,.sl true []])
   Tryz.func37 rfl rfl rfl rfl (by kernel_rfl) (by kernel_rfl) (by omega) (by kernel_rfl) (by kernel_rfl) rfl rfl h
 ·exact IB h
 ·exact IA h
 ·exact GQ (T:=50) (B:=4) (e:=114) (k:=2) (by_:=16) (ze:=.agg [.int .i64 0,.int .i64 0])
   Tryz.func102 rfl rfl rfl rfl (by kernel_rfl) (by kernel_rfl) (by omega) (by kernel_rfl) (by kernel_rfl) rfl rfl h
theorem BL:Pg.follows .mixedOrders=true:=by kernel_rfl
theorem okK:CfOk Pg (call Pg polK):=Gk (pol:=polK) (fun f g hg args H r H' h=>ext0 f g hg args H r H' h) BL
theorem ext1:ExtOk Pg pol1:=by
 intro f g hg args H r H' h;by_cases e:f=9
 ·subst e;have:pol1.ext 9=some (call Pg polK 9):=rfl;rw[this]at hg;obtain rfl:=Option.some.inj hg;exact okK.1 9 args H r H' (by decide) h
 ·have:pol1.ext f=pol0.ext f:=by
   show (if f=9 then some (call Pg polK 9) else pol0.ext f)=_;rw[if_neg e]
  rw[this]at hg;exact ext0 f g hg args H r H' h
theorem ok1:CfOk Pg (call Pg pol1):=Gk ext1 BL
structure WS.In (ins:List Ins) (w:WS):Prop where
 sub:w.stops.Sublist w.seen
 at_:∀ a∈w.stops,∃ i,ins[a]?=some i/\stopB i=true
theorem Nv {ins:List Ins}:∀(k:Nat) (s:List Nat) (w:WS),w.In ins->(vis ins k s w).In ins
 | _,[],w,h=>by simpa [vis] using h
 | 0,_::_,w,h=>by simpa [vis] using h
 | k+1,a::st,w,h=>by
   simp only[vis];split
   ·exact⟨h.sub,h.at_⟩
   ·cases hi:ins[a]? with
    | none=>exact h
    | some i=>
      refine Nv k _ _ ⟨?_,?_⟩
      ·simp only[stepS];split
       ·exact h.sub.append (List.Sublist.refl _)
       ·exact h.sub.trans (List.sublist_append_left _ _)
      ·simp only[stepS];split
       ·rename_i hb;intro b hm;rcases mem_append.1 hm with hm|hm
        ·exact h.at_ b hm
        ·simp at hm;subst hm;exact⟨i,hi,hb⟩
       ·exact h.at_
theorem HX (ins:List Ins) (st:Nat):(fromS ins st).In ins:=Nv _ _ _ ⟨List.Sublist.refl _,fun a h=>by simp[w0S]at h⟩
def rdB (ins:List Ins) (a:Nat):Bool:=match ins[a]? with
 | some i=>decide (i.op≠0)&&decide (0<i.set.length)
 | none=>false
def dnB (ins:List Ins) (a:Nat):Bool:=match ins[a]? with
 | some i=>decide (i.op=0)
 | none=>false
def setI (ins:List Ins) (a:Nat):List (Int×Int):=match ins[a]? with
 | some i=>i.set
 | none=>[]
theorem Fw (ins:List Ins):∀(l:List Nat) (s:ES),(esStop ins s l).rd=s.rd++l.filter (rdB ins)/\(esStop ins s l).sp=s.sp++(l.filter (rdB ins)).flatMap (setI ins)/\(esStop ins s l).dn=s.dn+l.countP (dnB ins)
 | [],s=>by simp[esStop]
 | a::l,s=>by
   obtain⟨h1,h2,h3⟩:=Fw ins l (esY ins s a);have e:esStop ins s (a::l)=esStop ins (esY ins s a) l:=rfl;rw[e,h1,h2,h3,List.filter_cons,List.countP_cons];cases hi:ins[a]? with
   | none=>simp[esY,rdB,dnB,hi]
   | some i=>
     by_cases h0:i.op=0
     ·simp[esY,rdB,dnB,hi,h0];omega
     ·by_cases hs:0<i.set.length
      ·simp[esY,rdB,dnB,setI,hi,h0,hs]
      ·have hs':i.set=[]:=List.length_eq_zero_iff.1 (by omega);simp[esY,rdB,dnB,hi,h0,hs']
def exS (ins:List Ins) (st:Nat):ES:=esStop ins (ES0 ins.length) (fromS ins st).stops
theorem HY (ins:List Ins) (st:Nat):(exS ins st).rd=(fromS ins st).stops.filter (rdB ins):=by
 have:=(Fw ins (fromS ins st).stops (ES0 ins.length)).1
 simpa [exS,ES0] using this
theorem L7 (ins:List Ins) (st:Nat):(exS ins st).sp=((fromS ins st).stops.filter (rdB ins)).flatMap (setI ins):=by
 have:=(Fw ins (fromS ins st).stops (ES0 ins.length)).2.1
 simpa [exS,ES0] using this
theorem OL {ins:List Ins}{a:Nat} (h:rdB ins a=true):∃ i,ins[a]?=some i/\i.op≠0/\0<i.set.length:=by
 unfold rdB at h;split at h
 ·rename_i i hi;simp only[Bool.and_eq_true,decide_eq_true_eq]at h;exact⟨i,hi,h.1,h.2⟩
 ·cases h
theorem OK {ins:List Ins}{st a:Nat} (h:a∈(exS ins st).rd):a∈(fromS ins st).stops/\∃ i,ins[a]?=some i/\i.op≠0/\0<i.set.length:=by
 rw[HY]at h;obtain⟨h1,h2⟩:=mem_filter.1 h;exact⟨h1,OL h2⟩
theorem M9 {ins:List Ins} (h:OkP ins) {st:Nat} (hst:st<ins.length):(fromS ins st).stops.length<=ins.length:=by
 have h1:=(MM h.in1 (JN _) (s:=[st]) (fun a ha=>by simp at ha;omega)).len;exact Nat.le_trans (HX ins st).sub.length_le h1
theorem Kv {ins:List Ins} (h:OkP ins):∀ l:List Nat,(l.flatMap (setI ins)).length<=64*l.length
 | []=>by simp
 | a::l=>by
   have:=Kv h l;have h2:(setI ins a).length<=64:=by
    unfold setI;split
    ·rename_i i hi;exact(h.sets i (mem_of_getElem? hi)).2
    ·simp
   simp only[List.flatMap_cons,length_append,length_cons];omega
theorem Lo {ins:List Ins} (h:OkP ins) {st:Nat} (hst:st<ins.length):(exS ins st).rd.length<=8192/\(exS ins st).sp.length<=64*8192:=by
 have h1:=M9 h hst;have h2:=h.len;have h3:((fromS ins st).stops.filter (rdB ins)).length<=(fromS ins st).stops.length:=List.length_filter_le _ _;rw[HY,L7];have h4:=Kv h ((fromS ins st).stops.filter (rdB ins));omega
theorem SG {ins:List Ins} (h:OkP ins) {st:Nat}{p:Int×Int} (hp:p∈(exS ins st).sp):p.1<=p.2:=by
 rw[L7]at hp;obtain⟨a,ha,h1⟩:=List.mem_flatMap.1 hp;obtain⟨i,hi,_,_⟩:=OL (mem_filter.1 ha).2;simp only[setI,hi]at h1;exact((h.sets i (mem_of_getElem? hi)).1.1 p h1).2.1
def DisS (p q:Int×Int):Prop:=p.2<q.1∨q.2<p.1
def ForkS (ins:List Ins) (st:Nat):Prop:=(fromS ins st).tw=true∨1<(exS ins st).dn∨¬ (exS ins st).sp.Pairwise DisS
def keyI (ins:List Ins) (n:Nat):Int:=match ins[n]? with
 | some i=>match i.set with
   | p::_=>p.1
   | []=>0
 | none=>0
def ExR (ins:List Ins) (st:Nat) (l:List Nat) (fk:Bool):Prop:=
 (fk=true->ForkS ins st)/\(fk=false->¬ ForkS ins st/\l.Perm (exS ins st).rd/\l.Pairwise (fun a b=>keyI ins a<=keyI ins b))
theorem Gw {S sp:List (Int×Int)} (hP:S.Perm sp) (hs:S.Pairwise fun p q=>p.1<=q.1) (hw:∀ p∈sp,p.1<=p.2) :
  sp.Pairwise DisS↔∀(k:Nat) p q,S[k]?=some p->S[k+1]?=some q->p.2<q.1:=by
 have hsym:∀ {x y:Int×Int},DisS x y->DisS y x:=fun h=>h.symm;have hw':∀(k:Nat) p,S[k]?=some p->p.1<=p.2:=fun k p h=>hw p (hP.mem_iff.1 (mem_of_getElem? h));have hss:∀(i j:Nat) p q,i<j->S[i]?=some p->S[j]?=some q->p.1<=q.1:=by
  intro i j p q hij hp hq;obtain⟨hi,rfl⟩:=List.getElem?_eq_some_iff.1 hp;obtain⟨hj,rfl⟩:=List.getElem?_eq_some_iff.1 hq;exact List.pairwise_iff_getElem.1 hs i j hi hj hij
 rw[<- hP.pairwise_iff hsym];constructor
 ·intro h k p q hp hq;have h1:=hss k (k+1) p q (Nat.lt_succ_self _) hp hq;have h2:=hw' _ _ hq;have h3:=hw' _ _ hp;obtain⟨hi,rfl⟩:=List.getElem?_eq_some_iff.1 hp;obtain⟨hj,rfl⟩:=List.getElem?_eq_some_iff.1 hq;rcases List.pairwise_iff_getElem.1 h k (k+1) hi hj (Nat.lt_succ_self _) with h|h
  ·exact h
  ·omega
 ·intro h;refine List.pairwise_iff_getElem.2 fun i j hi hj hij=>.inl ?_;have h1:=h i S[i] S[i+1] (getElem?_eq_getElem _) (getElem?_eq_getElem _);by_cases e:j=i+1
  ·subst e;exact h1
  ·have:=hss (i+1) j S[i+1] S[j] (by omega) (getElem?_eq_getElem _) (getElem?_eq_getElem _);omega
end Go.Ev
namespace Go.Ev
attribute [local go_sem] BM evBin evBuild evMakeSlice AV.cells AV.ok splice Ae Al bndO bnd evEq eqCells not_false_eq_true not_true_eq_false AX Array.size_empty length_append map_append tySzE head?_drop Nat.mul_one AQ AU AO AR AS AY
section
attribute [local go_sem] evAppend
theorem FM {α:Type}{f:α->AV}{g:AV->α} (hg:∀ x,g (f x)=x) {l:List AV}{m:List α} (h:l.Perm (m.map f)):∃ l':List α,l=l'.map f/\l'.Perm m:=by
 have e:(m.map f).map g=m:=by rw[map_map];exact(List.map_congr_left fun x _=>hg x).trans (map_id _)
 refine⟨l.map g,?_,e ▸ h.map g⟩;rw[map_map];refine((List.map_congr_left fun x hx=>?_).trans (map_id l)).symm;obtain⟨y,_,rfl⟩:=mem_map.1 (h.mem_iff.1 hx);simp[hg]
theorem f106 {l:List (Int×Int)}{n:Nat} (hn:l.length=n) (hl:n<=4000000000) (H:List MB) (Q:AV×List MB->Prop) (τ:Tag Q) (hr:getRow H 8=some (2,l.map spanAV,0))
  (h:∀ S:List (Int×Int),S.Perm l->S.Pairwise (fun p q=>p.1<=q.1)->Q (.tup [],H.set 8 (.row 2 (S.map spanAV) 0))):bindW (call Pg pol1 106 [.ms 8 2 n 0 n,.clo 107 []] H) Q τ:=by
 obtain⟨els,h1,h2,h3⟩:=Gx (P:=Pg) (g:=107) (k:=2) (id:=8) (cfOf:=cmpLo) (cs:=[]) (cs':=[]) hr (by simpa using hn) hl rfl (by decide) (by simp[plainE,intC])
  (MQ fun x:ElT _=>avLo x.1) (fun x hx y hy=>by
    obtain⟨p,_,rfl⟩:=mem_map.1 hx;obtain⟨q,_,rfl⟩:=mem_map.1 hy;exact⟨_,ok1.1 _ _ _ _ _ (by decide) (f107 p q [])⟩)
 obtain⟨S,rfl,h4⟩:=FM (f:=spanAV) (g:=fun x=>match x with | .agg [.int _ a,.int _ b]=>(a,b)|_=>(0,0)) (fun x=>rfl) h1;have hc:call Pg pol1 106 [.ms 8 2 n 0 n,.clo 107 []] H=some (.tup [],H.set 8 (.row 2 (S.map spanAV) 0)):=by
  rw[BO];unfold evStep;rw[if_neg (show ¬ pol1.pure 106=true by decide),if_neg (by decide)];exact h3
 rw[hc,A4];refine h S h4 ?_;rw[List.pairwise_map]at h2;refine h2.imp fun {a b} h=>?_;simp only[cmpLo,avLo,EJ]at h;omega
theorem f110 {ins:List Ins} (a b:Nat) (ha:∃ i,ins[a]?=some i/\0<i.set.length) (hb:∃ i,ins[b]?=some i/\0<i.set.length) :
  call Pg pol1 110 [NV a,NV b,.pt [.sl false (ins.map insAV)]] []=some (I (cmpI (keyI ins a) (keyI ins b)),[]):=by
 obtain⟨i,hi,hi2⟩:=ha;obtain⟨j,hj,hj2⟩:=hb;have hi':(ins.map insAV)[a]?=some (insAV i):=by simp[hi]
 have hj':(ins.map insAV)[b]?=some (insAV j):=by simp[hj]
 obtain⟨p,l,hp⟩:∃ p l,i.set=p::l:=by cases h:i.set with
  | nil=>rw[h]at hi2;cases hi2
  | cons p l=>exact⟨p,l,rfl⟩
 obtain⟨q,m,hq⟩:∃ p l,j.set=p::l:=by cases h:j.set with
  | nil=>rw[h]at hj2;cases hj2
  | cons p l=>exact⟨p,l,rfl⟩
 have k1:keyI ins a=p.1:=by simp[keyI,hi,hp]
 have k2:keyI ins b=q.1:=by simp[keyI,hj,hq]
 have h1:=f108 p.1 q.1;rw[k1,k2];refine AP (pol:=pol1) Tryz.func110 rfl rfl rfl rfl (AL _ _ 0 (by simp[mixOk,AV.plain,AV.plainL,AH])) ?_;simp +contextual (disch:=omega) only[Tryz.f110,TH,go_sem,simprocAttr,Sf,↓AD,↓AC,↓AB,↓AA,hi',hj',hp,hq,h1];repeat' (first|intro _|apply And.intro|(unfold dOk;kernel_rfl)|(show (_||_)=true;kernel_rfl)|(show (_&&_)=true;kernel_rfl))
 rfl
theorem f109 {ins:List Ins}{l:List Nat}{n:Nat} (hn:l.length=n) (hl:n<=4000000000) (hin:∀ a∈l,∃ i,ins[a]?=some i/\0<i.set.length) (H:List MB) (Q:AV×List MB->Prop) (τ:Tag Q) (hr:getRow H 7=some (1,l.map NV,0)) (h0:getRow (H.set 7 (.row 1 [] 0)) 0=some (1,[.sl false (ins.map insAV)],0))
  (h:∀ R:List Nat,R.Perm l->R.Pairwise (fun a b=>keyI ins a<=keyI ins b)->Q (.tup [],H.set 7 (.row 1 (R.map NV) 0))):bindW (call Pg pol1 109 [.ms 7 1 n 0 n,.clo 110 [.rf 0 1 0 0]] H) Q τ:=by
 have hk:∀ a∈l,∀ b∈l,cmpKy [.pt [.sl false (ins.map insAV)]] (NV a) (NV b)=cmpI (keyI ins a) (keyI ins b):=by
  have key:∀ a∈l,avKy [.pt [.sl false (ins.map insAV)]] (NV a)=keyI ins a:=fun a ha=>by
   obtain⟨i,hi,hi2⟩:=hin a ha;have hi':(ins.map insAV)[a]?=some (insAV i):=by simp[hi]
   simp only[avKy,Int.toNat_natCast,hi',keyI,hi];cases hs:i.set with
   | nil=>rw[hs]at hi2;cases hi2
   | cons p m=>
     have e:insAV i=.agg [I i.op,I i.x,I i.y,I i.n,.sl false (spanAV p::m.map spanAV)]:=by simp[hs]
     rw[e];rfl
  intro a ha b hb;unfold cmpKy;rw[key a ha,key b hb]
 obtain⟨els,h1,h2,h3⟩:=Gx (P:=Pg) (g:=110) (k:=1) (id:=7) (cfOf:=cmpKy) (cs:=[.rf 0 1 0 0]) (cs':=[.pt [.sl false (ins.map insAV)]]) hr (by simpa using hn) hl (by
   have hu:(AV.sl false (ins.map insAV)).cells.all (AV.under 0)=true:=by
    have:=AE 0 _ (AH ins);simp[AV.cells,AV.under,this]
   simp only[thwRs,thwR,h0,length_cons,length_nil,if_true,List.getElem?_cons_zero,hu];rfl) (by decide) (by simp[plainE,intC])
  (MQ fun x:ElT _=>avKy [.pt [.sl false (ins.map insAV)]] x.1) (fun x hx y hy=>by
    obtain⟨a,ha,rfl⟩:=mem_map.1 hx;obtain⟨b,hb,rfl⟩:=mem_map.1 hy;rw[hk a ha b hb];exact⟨_,ok1.1 _ _ _ _ _ (by decide) (f110 a b (hin a ha) (hin b hb))⟩)
 obtain⟨R,rfl,h4⟩:=FM (f:=fun n:Nat=>NV n) (g:=fun x=>match x with | .int _ a=>a.toNat|_=>0) (fun x=>by simp) h1;have hc:call Pg pol1 109 [.ms 7 1 n 0 n,.clo 110 [.rf 0 1 0 0]] H=some (.tup [],H.set 7 (.row 1 (R.map NV) 0)):=by
  rw[BO];unfold evStep;rw[if_neg (show ¬ pol1.pure 109=true by decide),if_neg (by decide)];exact h3
 rw[hc,A4];refine h R h4 ?_;rw[List.pairwise_map]at h2;refine h2.imp_of_mem fun {a b} ha hb h=>?_;rw[hk b (h4.mem_iff.1 hb) a (h4.mem_iff.1 ha),EJ]at h;omega
theorem Jk {id k tot z:Nat}{e:Bool}{H:List MB}{els:List AV} (hr:getRow H id=some (k,els,z)) (h1:els.length=tot) (hp:AV.plainL els=true) :
  ∃ H',fz (.tup [.ms id k tot 0 tot,.bool e]) H=some (.tup [.sl false els,.bool e],H'):=by
 refine⟨mark H id tot,?_⟩;have h2:fzA (fzJ 6) (.ms id k tot 0 tot) H=some (.sl false els,mark H id tot):=Cl (n:=5) hr h1 hp;simp only[fz,EU,fzL,h2];rfl
theorem F4 {cf:CF}{it:It}{mu:List Nat}{m:Cfg}{g f h n:Nat}{cs:List AV}{ps:Array Tmp}{asg b:Code}{c:Code×Code}{t:Tm}{H H':List MB}{r:AV}{e:EX}{s':St}{Q:EX->St->Prop} {τ} (mk:Option (List Nat)) (hcc:c=(asg,b)) (hf:m.rf=some f) (hg:look t g=some (.clo h cs)) (hk:(m.lp (loopId b)).k=mk)
  (hne:h≠yldF) (hc:cf h (.yld H.length::cs) (H++[.lp .ready f n (keepT mk t) ps.toList c])=some (r,H')) (he:endLp H' H.length ⟨n,t,H⟩=some (e,s')) (hq:Q e s'):W Pg cf it mu m (.rangeFunc (.tmp g) ps asg b) ⟨n,t,H⟩ Q τ:=by
 subst hcc;exact ML mk hf hg hk hne hc he hq
theorem f75 {ins:List Ins} (h:OkP ins) {st:Nat} (hst:st<ins.length):∃ r:AV,(∃(l:List Nat) (fk:Bool),r=.tup [.sl false (l.map NV),.bool fk]/\ExR ins st l fk)/\∀ H,call Pg pol1 75 [.sl false (ins.map insAV),NV st] H=some (r,H):=by
 have hl:=h.len;have h76:=fun H=>f76 ins st 105 [.rf 3 1 0 0,.rf 2 1 0 0] H;have hroom:roomFor ins.length 1=true:=AY (by omega) (by omega);refine CL Tryz.func75 rfl rfl rfl rfl rfl rfl (fun _=>rfl) (by simp[AV.plain,AV.plainL,AF,AG,AH,AI]) ?_ ?_
 ·rintro r ⟨l,fk,rfl,_⟩;simp[AV.plain,AV.plainL,FL]
 simp +contextual (disch:=omega) only[Tryz.f75,dd75,go_sem,simprocAttr,mu75,↓AD,↓AC,↓AB,↓AA,h76,hroom];obtain⟨sF,hF,hfk,hsF⟩:=Ih h hst;obtain⟨c,hc⟩:∃ c:Code×Code,c=rfOf Pg 75:=⟨_,rfl⟩;have key:call Pg pol1 111 [.yld 12,.rf 10 1 0 0,.rf 11 1 0 0,.rf 9 1 0 0] (exH ins st c .ready (ES0 ins.length) [])=some (.tup [],exH ins st c .ready sF []):=by
  obtain⟨s,h1,h2⟩:=r75 h hst c hc;rw[hF]at h1;cases h1;exact h2
 simp only[ES0,exH,exA,List.map_replicate]at key;refine F4 (c:=c) (mk:=some [11,10,9,2]) (hc.trans (by kernel_rfl)) rfl rfl rfl (by decide) key (Hg rfl) ?_;cases hk:sF.fk with
 | true=>
   simp +contextual (disch:=omega) only[Tryz.f75,dd75,go_sem,simprocAttr,mu75,↓AD,↓AC,↓AB,↓AA,hk];exact⟨_,⟨[],true,rfl,fun _=>.inl (hfk.symm.trans hk),fun h=>nomatch h⟩,_,rfl⟩
 | false=>
   obtain⟨e1,e2,e3⟩:=hsF (hfk.symm.trans hk);by_cases hd:1<sF.dn
   ·simp +contextual (disch:=omega) only[Tryz.f75,dd75,go_sem,simprocAttr,mu75,↓AD,↓AC,↓AB,↓AA,hk,hd];exact⟨_,⟨[],true,rfl,fun _=>.inr (.inl (by unfold exS;rw[<- e3];exact hd)),fun h=>nomatch h⟩,_,rfl⟩
   ·simp +contextual (disch:=omega) only[Tryz.f75,dd75,go_sem,simprocAttr,mu75,↓AD,↓AC,↓AB,↓AA,hk,hd];have hsp:sF.sp=(exS ins st).sp:=e2;have hrd:sF.rd=(exS ins st).rd:=e1;have hsl:sF.sp.length<=4000000000:=by rw[hsp];have:=(Lo h hst).2;omega
    have hrl:sF.rd.length<=4000000000:=by rw[hrd];have:=(Lo h hst).1;omega
    have hwf:∀ p∈sF.sp,p.1<=p.2:=fun p hp=>SG h (hsp ▸ hp);refine f106 (n:=sF.sp.length) rfl hsl _ _ _ rfl fun S hS1 hS2=>?_;have hSl:S.length=sF.sp.length:=hS1.length_eq;simp +contextual (disch:=omega) only[Tryz.f75,dd75,go_sem,simprocAttr,mu75,↓AD,↓AC,↓AB,↓AA,hk,hd]
    refine Cw (σ:=Nat) (M:=(mskOf (pol1.mask 75) (pol1.gc 75) (pol1.acts 75) 0 18)) (by rfl) (fun i=>(⟨79,[(13,NV i),(10,.rf 5 1 0 0),(9,.rf 4 1 0 0),(2,.rf 0 1 0 0)],[.row 1 [.sl false (ins.map insAV)] 0,.row 1 (sF.came.map AV.bool) 0,.row 1 [.ms 1 1 ins.length 0 ins.length] 0,.row 1 [.bool false] 0,.row 1 [.ms 7 1 sF.rd.length 0 sF.rd.length] 0,.row 1 [.ms 8 2 sF.sp.length 0 sF.sp.length] 0,.row 1 [NV sF.dn] 0,.row 1 (sF.rd.map NV) 0,.row 2 (S.map spanAV) 0,.row 1 [.sl false (ins.map insAV)] 0,.row 1 [NV st] 0,.row 1 [.clo 105 [.rf 3 1 0 0,.rf 2 1 0 0]] 0,.lp .over 75 79 [] [22,23] c]⟩:St))
     (fun i=>1<=i/\i<=S.length+1/\∀ k p q,k+1<i->S[k]?=some p->S[k+1]?=some q->p.2<q.1) (fun i=>S.length+1-i) 1 ?_ ⟨Nat.le_refl _,by omega,fun k p q h=>by omega⟩ _ ?_
    ·rintro i ⟨h1,h2,h3⟩;by_cases hi:i<S.length
     ·obtain⟨p,hp⟩:∃ p,S[i]?=some p:=⟨_,getElem?_eq_getElem hi⟩;obtain⟨q,hq⟩:∃ p,S[i-1]?=some p:=⟨_,getElem?_eq_getElem (by omega)⟩;have hp':(S.map spanAV)[i]?=some (spanAV p):=by simp[hp]
      have hq':(S.map spanAV)[i-1]?=some (spanAV q):=by simp[hq]
      have hlt:((i:Int)<((sF.sp.length:Nat):Int))=True:=eq_true (by omega);have hw:IntKind.i64.wrap ((i:Int)-1)=((i-1:Nat):Int):=by rw[i64_in]<;>omega
      have hw2:IntKind.i64.wrap ((i:Int)+1)=((i+1:Nat):Int):=by rw[i64_in]<;>omega
      have hn1:((0:Int)<=((i-1:Nat):Int))=True:=eq_true (by omega);have hlt2:((((i-1:Nat):Int))<((sF.sp.length:Nat):Int))=True:=eq_true (by omega);by_cases ho:p.1<=q.2
      ·simp +contextual (disch:=omega) only[Tryz.f75,dd75,go_sem,simprocAttr,mu75,↓AD,↓AC,↓AB,↓AA,hk,hd,hp',hq',hlt,hlt2,hw,hw2,hn1,Ab,ho,hSl];repeat' (first|intro _|apply And.intro|(unfold dOk;kernel_rfl)|(show (_||_)=true;kernel_rfl)|(show (_&&_)=true;kernel_rfl))
       refine⟨_,⟨[],true,rfl,fun _=>.inr (.inr fun hd=>?_),fun h=>nomatch h⟩,_,rfl⟩;rw[<- hsp,Gw hS1 hS2 hwf]at hd;have:=hd (i-1) q p hq (by rw[Nat.sub_add_cancel h1];exact hp);omega
      ·simp +contextual (disch:=omega) only[Tryz.f75,dd75,go_sem,simprocAttr,mu75,↓AD,↓AC,↓AB,↓AA,hk,hd,hp',hq',hlt,hlt2,hw,hw2,hn1,Ab,ho,hSl];repeat' (first|intro _|apply And.intro|(unfold dOk;kernel_rfl)|(show (_||_)=true;kernel_rfl)|(show (_&&_)=true;kernel_rfl))
       refine⟨i+1,⟨by omega,by omega,fun k p' q' hk' hp1 hq1=>?_⟩,by omega,rfl⟩;rcases Nat.lt_succ_iff_lt_or_eq.1 hk' with hlt|heq
       ·exact h3 k p' q' hlt hp1 hq1
       ·rw[heq,hp]at hq1;rw[show k=i-1 by omega,hq]at hp1;cases hp1;cases hq1;omega
     ·have hlt:((i:Int)<((sF.sp.length:Nat):Int))=False:=eq_false (by omega);simp +contextual (disch:=omega) only[Tryz.f75,dd75,go_sem,simprocAttr,mu75,↓AD,↓AC,↓AB,↓AA,hk,hd,hlt,Ab,hSl];refine f109 (ins:=ins) (n:=sF.rd.length) rfl hrl ?_ _ _ _ rfl rfl fun R hR1 hR2=>?_
      ·intro a ha;rw[hrd]at ha;obtain⟨_,j,hj1,_,hj2⟩:=OK ha;exact⟨j,hj1,hj2⟩
      simp +contextual (disch:=omega) only[Tryz.f75,dd75,go_sem,simprocAttr,mu75,↓AD,↓AC,↓AB,↓AA,hk,hd,hSl];have hx:ExR ins st R false:=by
       refine⟨fun h=>(nomatch h),fun _=>⟨?_,hrd ▸ hR1,hR2⟩⟩;rintro(hF1|hF2|hF3)
       ·rw[hfk,hF1]at hk;cases hk
       ·exact hd (e3 ▸ hF2)
       ·refine hF3 ?_;rw[<- hsp,Gw hS1 hS2 hwf];intro k p q hp hq;exact h3 k p q (by have:=(List.getElem?_eq_some_iff.1 hq).1;omega) hp hq
      exact⟨_,⟨R,false,rfl,hx⟩,Jk rfl (by rw[List.length_map];exact hR1.length_eq) (FL R)⟩
    ·rfl
end
section
attribute [local go_sem] evAppend
def CS0:CS:=⟨-1,m0S,false,m0S⟩
def enC (s:CS) (_:Nat):Bool×CS:=(true,s)
def yiC (ins:List Ins) (t:List Int) (p:Nat) (s:CS) (a:Nat) (m:List Bool):Bool×CS:=(!(chY ins t p s a m).dn,chY ins t p s a m)
theorem r44 (ins:List Ins) (caps n:Int) (t:List Int) (p st:Nat) (c:Code×Code) (hc:c=rfOf Pg 44) (hl:ins.length<=10000) (ht:t.length<=1000000) (hset:∀ i∈ins,i.set.length<=1000000) (hw:LeadsR ins) (hst:st<ins.length) (k:Nat) (hk:k<=100000) (sF:CS) (hrun:runS ins enC (yiC ins t p) k [(st,m0S)] CS0=some sF) :
  call Pg pol1 111 [.yld 10,.rf 8 1 0 0,.rf 9 1 0 0,.rf 7 1 0 0] (chH ins caps n t p st c .ready CS0 [])=some (.tup [],chH ins caps n t p st c (if sF.dn then .done .ret else .ready) sF []):=by
 refine f111 (fun s=>chH ins caps n t p st c (if s.dn then .done .ret else .ready) s []) (fun _ s=>s.dn=false/\s.way.length=18/\s.la.length=18) ins 11 10 8 9 7 77 st [] enC (yiC ins t p) (fun s=>rfl) ?_ (eq_false (by decide)) hl hst hw (fun s=>rfl) (fun s=>rfl) (fun s=>rfl) (by decide) ?_ ?_ ?_ ?_ ?_ k CS0 sF ⟨rfl,rfl,rfl⟩ hk hrun
 ·intro s n' hn;have h1:=AE n' _ (AH ins);have h2:=AE n' _ (Bz s.way);have h3:=AE n' _ (Bz s.la);have h4:=AE n' _ (AF t);simp[chH,chA,MB.under,AV.underL,AV.under,h1,h2,h3,h4];omega
 ·intro f s a K hP ha;exact f77 a _
 ·intro f s a m K hP ha hm;obtain⟨G,hG⟩:=y44 ins caps n t p st c hc s a m K hl ht ha hm hP.2.1 hP.2.2 hP.1 hset;refine⟨G,?_⟩;have e:(if s.dn=true then LS.done EX.ret else LS.ready)=LS.ready:=if_neg (by simp[hP.1]);simp only[e];exact hG
 ·exact fun f s a hP ha=>hP
 ·intro f s a m hP hm hy;simp only[yiC,Bool.not_eq_true']at hy;refine⟨hy,?_⟩;simp only[yiC];unfold chY;split
  ·split
   ·exact⟨hP.2.1,hm⟩
   ·split
    ·split
     ·exact⟨hm,hP.2.2⟩
     ·exact hP.2
    ·exact hP.2
  ·exact hP.2
 ·exact fun f s hP=>hP
theorem QT {ins:List Ins}{t:List Int}{p:Nat}{s:CS}{a:Nat}{m:List Bool} (hm:m.length=18) (h:s.way.length=18/\s.la.length=18):(chY ins t p s a m).way.length=18/\(chY ins t p s a m).la.length=18:=by
 unfold chY;split
 ·split
  ·exact⟨h.1,hm⟩
  ·split
   ·split
    ·exact⟨hm,h.2⟩
    ·exact h
   ·exact h
 ·exact h
theorem DG {ins:List Ins}{t:List Int}{p:Nat}:∀(k:Nat) (stk:Stk) (s sF:CS),runS ins enC (yiC ins t p) k stk s=some sF->(∀ w∈stk,w.2.length=18)->s.way.length=18/\s.la.length=18->sF.way.length=18/\sF.la.length=18
 | k,[],s,sF,h,_,hs=>by
   have:s=sF:=by cases k<;>simpa [runS] using h
   subst this;exact hs
 | 0,_::_,s,sF,h,_,_=>by simp[runS]at h
 | k+1,(a,m)::st,s,sF,h,hst,hs=>by
   have hm:m.length=18:=hst (a,m) (by simp);have hst':∀ w∈st,w.2.length=18:=fun w hw=>hst w (List.mem_cons_of_mem _ hw);simp only[runS,enC]at h;cases hi:ins[a]? with
   | none=>rw[hi]at h;simp at h
   | some i=>
     simp only[hi]at h;split at h
     ·exact DG k _ s sF h (fun w hw=>by
       simp at hw;rcases hw with rfl|rfl|hw
       ·exact hm
       ·exact hm
       ·exact hst' w hw) hs
     ·split at h
      ·exact DG k _ s sF h (fun w hw=>by
        simp at hw;rcases hw with rfl|hw
        ·exact hm
        ·exact hst' w hw) hs
      ·split at h
       ·exact DG k _ s sF h (fun w hw=>by
         simp at hw;rcases hw with rfl|hw
         ·simp[hm]
         ·exact hst' w hw) hs
       ·split at h
        ·have hc:=QT (ins:=ins) (t:=t) (p:=p) (a:=a) hm hs;cases hy:(yiC ins t p s a m).1 with
         | false=>rw[hy]at h;simp at h;subst h;exact hc
         | true=>rw[hy]at h;exact DG k st _ sF h hst' hc
        ·exact DG k st s sF h hst' hs
theorem f44 (ins:List Ins) (caps n:Int) (t:List Int) (p st:Nat) (hl:ins.length<=10000) (ht:t.length<=1000000) (hset:∀ i∈ins,i.set.length<=1000000) (hw:LeadsR ins) (hst:st<ins.length) (k:Nat) (hk:k<=100000) (sF:CS) (hrun:runS ins enC (yiC ins t p) k [(st,m0S)] CS0=some sF) (H:List MB) :
  call Pg pol1 44 [.pt [.sl false (ins.map insAV),I caps,I n],NV st,.sl false (t.map I),NV p] H=some (.tup [I sF.nx,.agg (sF.way.map AV.bool),.bool sF.dn,.agg (sF.la.map AV.bool)],H):=by
 have h76:=fun H=>f76 ins st 77 [] H;obtain⟨c,hc⟩:∃ c:Code×Code,c=rfOf Pg 44:=⟨_,rfl⟩;have key:=r44 ins caps n t p st c hc hl ht hset hw hst k hk sF hrun;have m0e:m0S.map AV.bool=[.bool false,.bool false,.bool false,.bool false,.bool false,.bool false,.bool false,.bool false,.bool false,.bool false,.bool false,.bool false,.bool false,.bool false,.bool false,.bool false,.bool false,.bool false]:=rfl;refine AT Tryz.func44 rfl rfl rfl rfl rfl rfl (fun _=>rfl) (by simp[AV.plain,AV.plainL,AF,AH]) (by simp[AV.plain,AV.plainL,Bz]) ?_ H;simp +contextual (disch:=omega) only[Tryz.f44,dd44,go_sem,simprocAttr,mu44,↓AD,↓AC,↓AB,↓AA,h76];obtain⟨hs1,hs2⟩:=DG k _ _ _ hrun (fun w hw=>by simp at hw;subst hw;rfl) ⟨rfl,rfl⟩;have tkw:=DW sF.way hs1;have tkl:=DW sF.la hs2;have okw:=Bj sF.way;have okl:=Bj sF.la;have drw:(sF.way.map AV.bool).drop 18=[]:=List.drop_of_length_le (by simp[hs1]);have drl:(sF.la.map AV.bool).drop 18=[]:=List.drop_of_length_le (by simp[hs2]);have le1:(18<=sF.way.length)=True:=eq_true (by omega);have le2:(18<=sF.la.length)=True:=eq_true (by omega);have hss:∀(i:Nat) (H:List MB),sameAt i H H=true:=fun i H=>by unfold sameAt;cases H[i]?<;>simp[MB.beq_refl]
 cases hd:sF.dn with
 | true=>
   rw[if_pos hd]at key;refine F4 (c:=c) (mk:=some [11,10,9,8,7,6,4]) (hc.trans (by kernel_rfl)) rfl rfl rfl (by decide) key (MC rfl) ?_;simp +contextual (disch:=omega) only[Tryz.f44,dd44,go_sem,simprocAttr,mu44,↓AD,↓AC,↓AB,↓AA,hd,tkw,tkl,okw,okl,drw,drl,le1,le2,hs1,hs2,hss,append_nil];repeat' (first|intro _|apply And.intro|(unfold dOk;kernel_rfl)|(show (_||_)=true;kernel_rfl)|(show (_&&_)=true;kernel_rfl))
   exact⟨_,Au _ (by simp[AV.plain,AV.plainL,Bz])⟩
 | false=>
   rw[if_neg (by simp[hd])]at key;refine F4 (c:=c) (mk:=some [11,10,9,8,7,6,4]) (hc.trans (by kernel_rfl)) rfl rfl rfl (by decide) key (Hg rfl) ?_;simp +contextual (disch:=omega) only[Tryz.f44,dd44,go_sem,simprocAttr,mu44,↓AD,↓AC,↓AB,↓AA,hd,tkw,tkl,okw,okl,drw,drl,le1,le2,hs1,hs2,hss,append_nil];repeat' (first|intro _|apply And.intro|(unfold dOk;kernel_rfl)|(show (_||_)=true;kernel_rfl)|(show (_&&_)=true;kernel_rfl))
   exact⟨_,Au _ (by simp[AV.plain,AV.plainL,Bz])⟩
end
theorem Qh {α:Type}{R:α->α->Prop} (hs:∀ {x y},R x y->R y x):∀ {l:List α},l.Pairwise R->∀ a∈l,∀ b∈l,a≠b->R a b
 | [],_,a,ha,_,_,_=>by cases ha
 | c::l,h,a,ha,b,hb,hne=>by
   obtain⟨h1,h2⟩:=pairwise_cons.1 h;rcases mem_cons.1 ha with ea|ha'
   ·rcases mem_cons.1 hb with eb|hb'
    ·exact absurd (ea.trans eb.symm) hne
    ·exact ea ▸ h1 b hb'
   ·rcases mem_cons.1 hb with eb|hb'
    ·exact hs (eb ▸ h1 a ha')
    ·exact Qh hs h2 a ha' b hb' hne
def leadB (ins:List Ins) (s:Int) (a:Nat):Bool:=match ins[a]? with
 | some i=>decide (i.op=1)&&hasSpan i.set s
 | none=>false
def leadS (ins:List Ins) (st:Nat) (s:Int):Option Nat:=((fromS ins st).stops.find? (leadB ins s)).map (·+ 1)
theorem CW {l:List (Int×Int)}{x:Int}:hasSpan l x=true↔∃ p∈l,p.1<=x/\x<=p.2:=by
 simp[hasSpan,List.any_eq_true]
theorem Kj {ins:List Ins}{s:Int}{a:Nat} (h:leadB ins s a=true):∃ i,ins[a]?=some i/\i.op=1/\hasSpan i.set s=true:=by
 unfold leadB at h;split at h
 ·rename_i i hi;simp only[Bool.and_eq_true,decide_eq_true_eq]at h;exact⟨i,hi,h.1,h.2⟩
 ·cases h
theorem Eg {ins:List Ins} (h:OkP ins) {st n:Nat} (hn:n∈(exS ins st).rd):∃ i,ins[n]?=some i/\i.op=1/\0<i.set.length:=by
 obtain⟨h1,i,hi,h2,h3⟩:=OK hn;obtain⟨j,hj,h4⟩:=(HX ins st).at_ n h1;rw[hi]at hj;cases hj;refine⟨i,hi,?_,h3⟩;simp only[stopB,Bool.and_eq_true,decide_eq_true_eq]at h4;rcases h.ops i (mem_of_getElem? hi) with h0|h0|h0|h0|h0
 ·exact absurd h0 h2
 ·exact h0
 ·exact absurd h0 h4.1
 ·exact absurd h0 h4.2.1
 ·exact absurd h0 h4.2.2
theorem Oj {ins:List Ins}{st n:Nat}{i:Ins} (h1:n∈(fromS ins st).stops) (hi:ins[n]?=some i) (h2:i.op=1) (h3:0<i.set.length):n∈(exS ins st).rd:=by
 rw[HY];refine mem_filter.2 ⟨h1,?_⟩;simp[rdB,hi,h2,h3]
theorem ER {ins:List Ins} (h:OkP ins) {n:Nat}{i:Ins} (hi:ins[n]?=some i) (h3:0<i.set.length):hasSpan i.set (keyI ins n)=true/\∀ s,hasSpan i.set s=true->keyI ins n<=s:=by
 obtain⟨⟨h1,h2⟩,_⟩:=h.sets i (mem_of_getElem? hi);cases hs:i.set with
 | nil=>rw[hs]at h3;cases h3
 | cons p m=>
   have e:keyI ins n=p.1:=by simp[keyI,hi,hs]
   rw[hs]at h1 h2;rw[e];refine⟨CW.2 ⟨p,by simp,Int.le_refl _,(h1 p (by simp)).2.1⟩,fun s hsp=>?_⟩;obtain⟨q,hq,h4,h5⟩:=CW.1 hsp;rcases mem_cons.1 hq with rfl|hq
   ·exact h4
   ·have:=(pairwise_cons.1 h2).1 q hq;have h6:=(h1 p (by simp)).2.1;omega
theorem OJ {ins:List Ins} (h:OkP ins) {st:Nat} (hst:st<ins.length):(exS ins st).rd.Nodup:=by
 rw[HY];have h1:=(MM h.in1 (JN _) (s:=[st]) (fun a ha=>by simp at ha;omega)).1;exact((List.filter_sublist).trans (HX ins st).sub).nodup h1
theorem Ka {ins:List Ins}{st:Nat} (hf:¬ ForkS ins st) {n m:Nat}{i j:Ins}{s:Int} (hn:n∈(exS ins st).rd) (hm:m∈(exS ins st).rd) (hi:ins[n]?=some i) (hj:ins[m]?=some j) (h1:hasSpan i.set s=true) (h2:hasSpan j.set s=true):n=m:=by
 refine Classical.byContradiction fun hne=>?_;have hp:(exS ins st).sp.Pairwise DisS:=Classical.byContradiction fun h=>hf (.inr (.inr h));rw[L7,List.pairwise_flatMap]at hp;rw[HY]at hn hm;have:=Qh (R:=fun a b=>∀ x∈setI ins a,∀ y∈setI ins b,DisS x y) (fun h y hy x hx=>(h x hx y hy).symm) hp.2 n hn m hm hne;obtain⟨p,hp1,hp2,hp3⟩:=CW.1 h1;obtain⟨q,hq1,hq2,hq3⟩:=CW.1 h2;rcases this p (by simpa [setI,hi] using hp1) q (by simpa [setI,hj] using hq1) with h|h<;>omega
theorem Ge {ins:List Ins} (h:OkP ins) {st b:Nat}{s:Int} (hl:leadS ins st s=some b):∃ n i,b=n+1/\n∈(exS ins st).rd/\ins[n]?=some i/\hasSpan i.set s=true:=by
 unfold leadS at hl;obtain⟨n,hn,rfl⟩:=Option.map_eq_some_iff.1 hl;obtain⟨i,hi,h1,h2⟩:=Kj (List.find?_some hn);refine⟨n,i,rfl,Oj (List.mem_of_find?_eq_some hn) hi h1 ?_,hi,h2⟩;obtain⟨p,hp,_⟩:=CW.1 h2;exact List.length_pos_of_mem hp
theorem Ja {ins:List Ins} (h:OkP ins) {st n:Nat}{i:Ins}{s:Int} (hf:¬ ForkS ins st) (hn:n∈(exS ins st).rd) (hi:ins[n]?=some i) (h2:hasSpan i.set s=true):leadS ins st s=some (n+1):=by
 obtain⟨j,hj,h3,h4⟩:=Eg h hn;rw[hi]at hj;cases hj;cases hq:leadS ins st s with
 | none=>
   unfold leadS at hq;have:=List.find?_eq_none.1 (Option.map_eq_none_iff.1 hq) n (OK hn).1;exact absurd (by simp[leadB,hi,h3,h2]) this
 | some b=>
   obtain⟨m,k,rfl,h5,h6,h7⟩:=Ge h hq;rw[Ka hf hn h5 hi h6 h2 h7]
structure RS where
 st:Nat
 be:Int
 sy:Int
 tx:List Int
def addS (ins:List Ins) (i:Nat) (r:RS) (xs:List RS) (s:Int):List RS:=match leadS ins r.st s with
 | some b=>if b∈xs.map (·.st) then xs else xs++[⟨b,i,s,r.tx++[s]⟩]
 | none=>xs
def addL (ins:List Ins) (i:Nat) (r:RS) (xs:List RS) (n:Nat):List RS:=if n+1∈xs.map (·.st) then xs else xs++[⟨n+1,i,keyI ins n,r.tx++[keyI ins n]⟩]
theorem PU (ins:List Ins) (i:Nat) (r:RS) (xs:List RS) (n:Nat):(∀ b∈xs.map (·.st),b∈(addL ins i r xs n).map (·.st))/\n+1∈(addL ins i r xs n).map (·.st):=by
 unfold addL;split
 ·rename_i h;exact⟨fun b h=>h,h⟩
 ·exact⟨fun b h=>by rw[map_append];exact List.mem_append_left _ h,by simp⟩
theorem J8 {ins:List Ins} (h:OkP ins) (i:Nat) (r:RS) (hf:¬ ForkS ins r.st):∀(syms:List Int) (l:List Nat) (xs:List RS),syms.Pairwise (·< ·)->l.Pairwise (fun a b=>keyI ins a<=keyI ins b)->l.Nodup ->
  (∀ n∈l,n∈(exS ins r.st).rd/\keyI ins n∈syms)->(∀ n∈(exS ins r.st).rd,n ∉ l->n+1∈xs.map (·.st))->syms.foldl (addS ins i r) xs=l.foldl (addL ins i r) xs
 | [],[],xs,_,_,_,_,_=>rfl
 | [],n::l,xs,_,_,_,h3,_=>absurd (h3 n (by simp)).2 (by simp)
 | s::syms,l,xs,h1,h2,h0,h3,h4=>by
   obtain⟨h1a,h1b⟩:=pairwise_cons.1 h1;by_cases hex:∃ n∈l,keyI ins n=s
   ·obtain⟨n,hn,hk⟩:=hex;cases l with
    | nil=>cases hn
    | cons m l=>
      obtain⟨h2a,h2b⟩:=pairwise_cons.1 h2;obtain⟨hm1,hm2⟩:=h3 m (by simp);obtain⟨hn1,_⟩:=h3 n hn;obtain⟨im,him,_,hm3⟩:=Eg h hm1;obtain⟨jn,hjn,_,hn3⟩:=Eg h hn1;have hmk:keyI ins m=s:=by
       have hle:keyI ins m<=s:=by
        rcases mem_cons.1 hn with rfl|hn
        ·omega
        ·have:=h2a n hn;omega
       rcases mem_cons.1 hm2 with h|h
       ·exact h
       ·have:=h1a _ h;omega
      have hkm:=ER h him hm3;rw[hmk]at hkm;simp only[List.foldl_cons];have e:addS ins i r xs s=addL ins i r xs m:=by
       unfold addS addL;rw[Ja h hf hm1 him hkm.1,hmk]
      rw[e];obtain⟨h0a,h0b⟩:=List.nodup_cons.1 h0;obtain⟨ha1,ha2⟩:=PU ins i r xs m;refine J8 h i r hf syms l _ h1b h2b h0b (fun k hk=>?_) (fun k hk hkl=>?_)
      ·obtain⟨hk1,hk2⟩:=h3 k (List.mem_cons_of_mem _ hk);refine⟨hk1,?_⟩;rcases mem_cons.1 hk2 with hk3|hk3
       ·obtain⟨ik,hik,_,hk4⟩:=Eg h hk1;have:=(ER h hik hk4).1;rw[hk3]at this;exact absurd (Ka hf hk1 hm1 hik him this hkm.1) (fun e=>h0a (e ▸ hk))
       ·exact hk3
      ·by_cases e:k=m
       ·subst e;exact ha2
       ·exact ha1 _ (h4 k hk (fun hm=>(mem_cons.1 hm).elim e hkl))
   ·have hks:∀ n∈l,n∈(exS ins r.st).rd/\keyI ins n∈syms:=fun n hn=>by
     obtain⟨a,b⟩:=h3 n hn;exact⟨a,(mem_cons.1 b).resolve_left fun e=>hex ⟨n,hn,e⟩⟩
    simp only[List.foldl_cons];have e:addS ins i r xs s=xs:=by
     unfold addS;cases hq:leadS ins r.st s with
     | none=>rfl
     | some b=>
       obtain⟨n,j,rfl,hn,hj,hsp⟩:=Ge h hq;obtain⟨j',hj',_,hpos⟩:=Eg h hn;rw[hj]at hj';cases hj';have hnl:n ∉ l:=fun hm=>by
        have a:=h1a _ (hks n hm).2;have b:=(ER h hj hpos).2 s hsp;omega
       simp only;rw[if_pos (h4 n hn hnl)]
    rw[e];exact J8 h i r hf syms l xs h1b h2 h0 hks h4
open Classical in
noncomputable def srch (ins:List Ins) (syms:List Int):Nat->Nat->List RS->List RS×Bool
 | 0,_,xs=>(xs,false)
 | f+1,i,xs=>match xs[i]? with
   | none=>(xs,false)
   | some r=>if ForkS ins r.st then(xs.take (i+1),true) else srch ins syms f (i+1) (syms.foldl (addS ins i r) xs)
structure XOk (ins:List Ins) (xs:List RS):Prop where
 nd:(xs.map (·.st)).Nodup
 lt:∀ r∈xs,r.st<ins.length
 bk:∀ j r,xs[j]?=some r->(r.be = -1/\r.tx=[])∨∃(k:Nat) (q:RS),k<j/\r.be=(k:Int)/\xs[k]?=some q/\r.tx=q.tx++[r.sy]
theorem XOk.len {ins:List Ins}{xs:List RS} (h:XOk ins xs):xs.length<=ins.length:=by
 have:=De (n:=ins.length) h.nd (fun a ha=>by
  obtain⟨r,hr,rfl⟩:=mem_map.1 ha;exact h.lt r hr)
 simpa using this
theorem XOk.add {ins:List Ins}{xs:List RS} (h:XOk ins xs) {b i:Nat}{s:Int}{r:RS} (hb:b<ins.length) (hn:b ∉ xs.map (·.st)) (hi:xs[i]?=some r):XOk ins (xs++[⟨b,i,s,r.tx++[s]⟩]):=by
 refine⟨?_,?_,?_⟩
 ·rw[map_append,List.nodup_append];exact⟨h.nd,by simp,fun x hx y hy=>by simp at hy;subst hy;rintro rfl;exact hn hx⟩
 ·intro x hx;rcases mem_append.1 hx with hx|hx
  ·exact h.lt x hx
  ·simp at hx;subst hx;exact hb
 ·intro j x hx;have hil:=(List.getElem?_eq_some_iff.1 hi).1;by_cases hj:j<xs.length
  ·rw[List.getElem?_append_left hj]at hx;rcases h.bk j x hx with h1|⟨k,q,h1,h2,h3,h4⟩
   ·exact .inl h1
   ·exact .inr ⟨k,q,h1,h2,by rw[List.getElem?_append_left (by omega)];exact h3,h4⟩
  ·have hjl:=(List.getElem?_eq_some_iff.1 hx).1;simp at hjl;have:j=xs.length:=by omega
   subst this;simp at hx;subst hx;exact .inr ⟨i,r,hil,rfl,by rw[List.getElem?_append_left hil];exact hi,rfl⟩
theorem XOk.addS {ins:List Ins} (hp:OkP ins) {xs:List RS} (h:XOk ins xs) {i:Nat}{s:Int}{r:RS} (hi:xs[i]?=some r):XOk ins (Go.Ev.addS ins i r xs s)/\(Go.Ev.addS ins i r xs s)[i]?=some r/\xs.length<=(Go.Ev.addS ins i r xs s).length:=by
 unfold Go.Ev.addS;cases hq:leadS ins r.st s with
 | none=>exact⟨h,hi,Nat.le_refl _⟩
 | some b=>
   simp only;split
   ·exact⟨h,hi,Nat.le_refl _⟩
   ·rename_i hn;obtain⟨n,j,rfl,h1,h2,_⟩:=Ge hp hq;obtain⟨j',hj',h3,_⟩:=Eg hp h1;exact⟨h.add (hp.sym n j' hj' h3) hn hi,by rw[List.getElem?_append_left (List.getElem?_eq_some_iff.1 hi).1];exact hi,by simp⟩
theorem XOk.adds {ins:List Ins} (hp:OkP ins) {i:Nat}{r:RS}:∀(syms:List Int) {xs:List RS} (_:XOk ins xs) (_:xs[i]?=some r),XOk ins (syms.foldl (Go.Ev.addS ins i r) xs)/\(syms.foldl (Go.Ev.addS ins i r) xs)[i]?=some r/\xs.length<=(syms.foldl (Go.Ev.addS ins i r) xs).length
 | [],xs,h,hi=>⟨h,hi,Nat.le_refl _⟩
 | s::syms,xs,h,hi=>by
   obtain⟨h1,h2,h3⟩:=h.addS hp (s:=s) hi;obtain⟨h4,h5,h6⟩:=XOk.adds hp syms h1 h2;exact⟨h4,h5,Nat.le_trans h3 h6⟩
def xs0:List RS:=[⟨0,-1,0,[]⟩]
theorem Nt {ins:List Ins} (hp:OkP ins):XOk ins xs0:=by
 refine⟨by simp[xs0],fun r hr=>?_,fun j r hj=>?_⟩
 ·simp[xs0]at hr;subst hr;exact hp.pos
 ·cases j with
  | zero=>simp[xs0]at hj;subst hj;exact .inl ⟨rfl,rfl⟩
  | succ j=>simp[xs0]at hj
end Go.Ev
namespace Go.Ev
attribute [local go_sem] BM evBin evBuild evMakeSlice AV.cells AV.ok splice Ae Al bndO bnd evEq eqCells not_false_eq_true not_true_eq_false AX Array.size_empty length_append map_append tySzE head?_drop Nat.mul_one AQ AU AO AR AS AY
section
attribute [local go_sem] evAppend
theorem g41 (l:List Int) (n:Int) (hl:l.length<=1000000000) (H:List MB):call Pg pol1 41 [.sl false (l.map I),I n] H=some (.bool (decide (n∈l)),H):=by
 refine AT Tryz.func41 rfl rfl rfl rfl rfl rfl (fun _=>rfl) (by simp[AV.plain,AV.plainL,AF,AG,AH,AI]) (by simp[AV.plain,AV.plainL,AF,AG,AH,AI]) ?_ H;simp +contextual (disch:=omega) only[Tryz.f41,dd41,go_sem,simprocAttr,mu41,↓AD,↓AC,↓AB,↓AA];refine Af (M:=(mskOf (pol1.mask 41) (pol1.gc 41) (pol1.acts 41) 0 2)) rfl l.length (fun i=>(⟨18,[(5,I i),(1,I n),(0,.sl false (l.map I))],[]⟩:St)) (fun i=>∀ k x,k<i->l[k]?=some x->x≠n) ?_ ?_ (fun k p h=>by omega) _ (by first|rfl|(refine A0 rfl (by rfl) (by rfl) (by rfl) ?_ ?_<;>simp[AV.underL,AV.under,MB.under,AE,AJ,AF,AG,AH,AI,-map_take]))
 ·intro i hi hg;obtain⟨x,hx⟩:∃ x,l[i]?=some x:=⟨_,getElem?_eq_getElem hi⟩;have hx':(l.map I)[i]?=some (I x):=by simp[hx]
  by_cases h:x=n
  ·have hm:n∈l:=h ▸ mem_of_getElem? hx;simp +contextual (disch:=omega) only[Tryz.f41,dd41,go_sem,simprocAttr,mu41,↓AD,↓AC,↓AB,↓AA,hx',h];simp only[hm,decide_true];exact fzEq rfl rfl
  ·simp +contextual (disch:=omega) only[Tryz.f41,dd41,go_sem,simprocAttr,mu41,↓AD,↓AC,↓AB,↓AA,hx',h];refine⟨fun k y hk hy=>?_,(by first|rfl|(refine A0 rfl (by rfl) (by rfl) (by rfl) ?_ ?_<;>simp[AV.underL,AV.under,MB.under,AE,AJ,AF,AG,AH,AI,-map_take]))⟩;rcases Nat.lt_succ_iff_lt_or_eq.1 hk with hlt|rfl
   ·exact hg k y hlt hy
   ·rw[hx]at hy;cases hy;exact h
 ·intro hg;have hm:¬ n∈l:=fun h=>by
   obtain⟨k,hk⟩:=List.mem_iff_getElem?.1 h;exact hg k n (List.getElem?_eq_some_iff.1 hk).1 hk rfl
  simp +contextual (disch:=omega) only[Tryz.f41,dd41,go_sem,simprocAttr,mu41,↓AD,↓AC,↓AB,↓AA];simp only[hm,decide_false];exact fzEq rfl rfl
theorem Dk {P:Program}{pol:Pol}{f:Nat}{args l:List AV}{H H1:List MB} (hp:pol.pure f=true) (h:frzArgs pol f 0 args H=some (l,H1)) (ha:AV.plainL l=true) :
  call P pol f args H=call P pol f l H1:=by
 have hf:∀(l:List AV) (i:Nat),AV.plainL l=true->frzArgs pol f i l H1=some (l,H1):=by
  intro l
  induction l with
  | nil=>intro i _;rfl
  | cons x l ih=>
    intro i h;simp only[AV.plainL,Bool.and_eq_true]at h;simp only[frzArgs,Au H1 h.1,ih (i+1) h.2];split<;>simp_all
 rw[BO,BO];unfold evStep;simp only[hp,if_true,h,hf l 0 ha]
end
section
abbrev WA (g:Prg) (w:WS) (z:Nat) (K:List MB):List MB:=
 .row 3 [prgAV g] 0::.row 6 [.agg [.sl false (g.ins.map insAV),I g.caps,.bool g.runes,.ms 2 1 w.seen.length 0 w.seen.length,.ms 3 1 w.stops.length 0 w.stops.length,.bool w.tw]] 0::.row 1 (w.seen.map NV) z::.row 1 (w.stops.map NV) 0::K
end
end Go.Ev
