/- The abstract evaluator: values as trees, a small heap of blocks that the call itself made. Plain definitions; nothing is claimed here. -/
import Derived.WalkKit
set_option linter.unusedVariables false
set_option linter.unusedSimpArgs false
namespace Go.Ev
class VarTab where
 ints:Nat->List (IntKind×Int)
variable [VarTab]
set_option linter.unusedSectionVars false
noncomputable section
open Classical in
def codeEq (a b:Code×Code):Bool:=decide (a=b)
inductive AV where
 | top
 | int (k:IntKind) (n:Int)
 | bool (b:Bool)
 | str (s:ByteArray)
 | nilp
 | nilf
 | nili
 | nilm
 | sl (t:Bool) (xs:List AV)
 | pt (cs:List AV)
 | rf (id tot i j:Nat)
 | ms (id k tot off len:Nat)
 | mpr (id:Nat)
 | clo (f:Nat) (cs:List AV)
 | clb (f:Nat) (fs:List AV)
 | agg (cs:List AV)
 | tup (vs:List AV)
 | ifc (t:Nat) (v:AV)
 | psl (a:Option (Nat×Nat)) (l c:Nat)
 | yld (id:Nat)
 deriving Inhabited
inductive EX where
 | norm
 | exit (id:Nat)
 | ret
 deriving DecidableEq
inductive LS where
 | ready
 | busy
 | done (e:EX)
 | over
 deriving DecidableEq
inductive KK where
 | int (k:IntKind)
 | str
 | flat (T:TypeId) (ks:List (Option IntKind))
 deriving DecidableEq,Inhabited
inductive MB where
 | row (k:Nat) (els:List AV) (z:Nat)
 | mp (q:KK) (es:List (AV×AV))
 | lp (st:LS) (f n:Nat) (t:List (Nat×AV)) (ps:List Nat) (c:Code×Code)
 | tr (T:TypeId) (k:Nat) (els:List AV) (z:Nat)
 deriving Inhabited
def MB.mk (t:Option TypeId) (k:Nat) (els:List AV) (z:Nat):MB:=match t with
 | none=>.row k els z
 | some T=>.tr T k els z
def MB.tag:MB->Option TypeId
 | .tr T _ _ _=>some T
 | _=>none
def AV.cells:AV->List AV
 | .agg cs=>cs
 | x=>[x]
def AV.ok:AV->Bool
 | .top | .agg _ | .tup _=>false
 | _=>true
mutual
def AV.beq:AV->AV->Bool
 | .top,.top=>true
 | .int k n,.int k' n'=>decide (k=k')&&decide (n=n')
 | .bool a,.bool b=>a==b
 | .str a,.str b=>decide (a=b)
 | .nilp,.nilp=>true
 | .nilf,.nilf=>true
 | .nili,.nili=>true
 | .nilm,.nilm=>true
 | .sl t xs,.sl t' ys=>(t==t')&&AV.beqL xs ys
 | .pt xs,.pt ys=>AV.beqL xs ys
 | .rf a b c d,.rf a' b' c' d'=>a==a'&&(b==b'&&(c==c'&&d==d'))
 | .ms a b c d e,.ms a' b' c' d' e'=>a==a'&&(b==b'&&(c==c'&&(d==d'&&e==e')))
 | .mpr a,.mpr b=>a==b
 | .clo f xs,.clo g ys=>(f==g)&&AV.beqL xs ys
 | .clb f xs,.clb g ys=>(f==g)&&AV.beqL xs ys
 | .agg xs,.agg ys=>AV.beqL xs ys
 | .tup xs,.tup ys=>AV.beqL xs ys
 | .ifc t x,.ifc u y=>(t==u)&&AV.beq x y
 | .psl a b c,.psl a' b' c'=>a==a'&&(b==b'&&c==c')
 | .yld a,.yld b=>a==b
 | _,_=>false
def AV.beqL:List AV->List AV->Bool
 | [],[]=>true
 | x::xs,y::ys=>AV.beq x y&&AV.beqL xs ys
 | _,_=>false
end
def MB.beqE:List (AV×AV)->List (AV×AV)->Bool
 | [],[]=>true
 | (a,b)::xs,(c,d)::ys=>AV.beq a c&&(AV.beq b d&&MB.beqE xs ys)
 | _,_=>false
def MB.beqT:List (Nat×AV)->List (Nat×AV)->Bool
 | [],[]=>true
 | (a,b)::xs,(c,d)::ys=>(a==c)&&(AV.beq b d&&MB.beqT xs ys)
 | _,_=>false
def MB.beq:MB->MB->Bool
 | .row k e z,.row k' e' z'=>(k==k')&&((z==z')&&AV.beqL e e')
 | .mp q a,.mp q' b=>decide (q=q')&&MB.beqE a b
 | .tr T k e z,.tr T' k' e' z'=>(T==T')&&((k==k')&&((z==z')&&AV.beqL e e'))
 | .lp s f n t ps c,.lp s' f' n' t' ps' c'=>decide (s=s')&&((f==f')&&((n==n')&&(MB.beqT t t'&&(decide (ps=ps')&&codeEq c c'))))
 | _,_=>false
def heapEq:List MB->List MB->Bool
 | [],[]=>true
 | x::xs,y::ys=>MB.beq x y&&heapEq xs ys
 | _,_=>false
mutual
def AV.under (n:Nat):AV->Bool
 | .rf id _ _ _=>decide (id<n)
 | .ms id _ _ _ _=>decide (id<n)
 | .mpr id=>decide (id<n)
 | .yld id=>decide (id<n)
 | .sl _ xs=>AV.underL n xs
 | .pt xs=>AV.underL n xs
 | .clo _ xs=>AV.underL n xs
 | .clb _ xs=>AV.underL n xs
 | .agg xs=>AV.underL n xs
 | .tup xs=>AV.underL n xs
 | .ifc _ x=>AV.under n x
 | _=>true
def AV.underL (n:Nat):List AV->Bool
 | []=>true
 | x::xs=>AV.under n x&&AV.underL n xs
end
def MB.underE (n:Nat):List (AV×AV)->Bool
 | []=>true
 | (a,b)::xs=>AV.under n a&&(AV.under n b&&MB.underE n xs)
def MB.under (n:Nat):MB->Bool
 | .row _ e _=>AV.underL n e
 | .tr _ _ e _=>AV.underL n e
 | .mp _ es=>MB.underE n es
 | .lp _ _ _ t _ _=>AV.underL n (t.map (·.2))
def keptOk (n:Nat):List MB->List MB->Bool
 | x::xs,y::ys=>(MB.under n y||MB.beq y x)&&keptOk n xs ys
 | _,_=>true
def ofC:Value->AV
 | .bool b=>.bool b
 | .int k n=>.int k n
 | .string s=>.str s
 | .pointer none=>.nilp
 | .nilFunc=>.nilf
 | .nilIface=>.nili
 | .map none=>.nilm
 | .slice none 0 0=>.sl true []
 | .func (.func f) first cap=>if first.size=0/\cap.size=0 then .clo f [] else .top
 | _=>.top
def ofV:Value->AV
 | .agg cs=>.agg (cs.toList.map ofC)
 | .tuple vs=>if vs.size=0 then .tup [] else .top
 | v=>ofC v
def ofK:Value->AV
 | .agg cs=>if cs.toList.all Value.oneCell' = true then .agg (cs.toList.map ofC) else .top
 | .tuple vs=>if vs.size=0 then .tup [] else .top
 | v=>ofC v
section types
variable (P:Program)
def tySz (T:TypeId):Option Nat:=(P.info? T).map (·.size)
def tyBytes (T:TypeId):Option Nat:=(P.info? T).map (·.bytes)
def tyZero (T:TypeId):Option AV:=((P.info? T).bind (·.zero)).map ofV
def tyAgg (T:TypeId):Option Bool:=(P.underlying T).map fun | .struct _ | .array _ _=>true|_=>false
def tyElem (T:TypeId):Option TypeId:=match P.underlying T with|some (.slice e)=>some e|_=>none
def tyArr (T:TypeId):Option (Nat×TypeId):=match P.underlying T with|some (.array n e)=>some (n,e)|_=>none
def tyInt (T:TypeId):Option IntKind:=match P.underlying T with|some (.int k)=>some k|_=>none
def tyNotInt (T:TypeId):Bool:=match P.underlying T with|some (.int _)=>false|some _=>true|none=>false
def tyStr (T:TypeId):Bool:=match P.underlying T with|some .string=>true|_=>false
def tyFld (T:TypeId) (f:Nat):Option (Nat×TypeId×Nat):=
 match P.underlying T with
 | some (.struct fs)=>match fs[f]? with
   | some d=>match tySz P d.type with
     | some s=>some (d.offset,d.type,s)
     | none=>none
   | none=>none
 | _=>none
end types
def getRow (H:List MB) (id:Nat):Option (Nat×List AV×Nat):=
 match H[id]? with
 | some (.row k e z)=>some (k,e,z)
 | some (.tr _ k e z)=>some (k,e,z)
 | _=>none
def getRow1 (H:List MB) (id:Nat):Option (Nat×List AV×Nat):=
 match H[id]? with
 | some (.row k e z)=>some (k,e,z)
 | _=>none
theorem Ee {H:List MB} {id k els z} (h:getRow1 H id=some (k,els,z)):H[id]?=some (.row k els z):=by
 unfold getRow1 at h;split at h
 ·rename_i hm;simp at h;obtain⟨rfl,rfl,rfl⟩:=h;exact hm
 ·simp at h
theorem Gl {H:List MB} {id k els z} (h:getRow1 H id=some (k,els,z)):getRow H id=some (k,els,z):=by
 unfold getRow;rw[Ee h]
def keepTag (P:Program) (H:List MB) (id off:Nat) (e:TypeId):Option TypeId:=
 if tyInt P e=some .u8/\off=0 then
  match H[id]? with
  | some (.tr T _ _ _)=>if T=e then some e else none
  | _=>none
 else none
def newTag (P:Program) (e:TypeId):Option TypeId:=if tyInt P e=some .u8 then some e else none
def cellsAt (H:List MB):AV->Option (List AV)
 | .pt cs=>some cs
 | .rf id tot i j=>
   match getRow H id with
   | some (_,els,_)=>
     if els.length=tot then
      match els[i]? with
      | some x=>some (x.cells.drop j)
      | none=>none
     else none
   | none=>none
 | _=>none
def mkVal (P:Program) (T:TypeId) (cs:List AV):Option AV:=
 match tyAgg P T,tySz P T with
 | some true,some s=>if s<=cs.length then some (.agg (cs.take s)) else none
 | some false,some _=>cs.head?
 | _,_=>none
def splice (cs:List AV) (j:Nat) (vs:List AV):List AV:=cs.take j++(vs++cs.drop (j+vs.length))
def setCells (x:AV) (j:Nat) (vs:List AV):AV:=
 match x with
 | .agg cs=>.agg (splice cs j vs)
 | y=>match vs with
   | [v]=>v
   | _=>y
def evStore (P:Program) (H:List MB) (T:TypeId) (a v:AV):Option (List MB):=
 match a with
 | .rf id tot i j=>
   match getRow H id with
   | some (k,els,z)=>
     if els.length=tot/\z<=i then
      match els[i]?,tySz P T with
      | some x,some s=>
        if v.cells.length=s/\j+s<=k/\0<k/\v.cells.all AV.ok=true then some (H.set id (.row k (els.set i (setCells x j v.cells)) z)) else none
      | _,_=>none
     else none
   | none=>none
 | _=>none
def evFieldAddr (P:Program) (T:TypeId) (x:AV) (f:Nat):Option AV:=
 match tyFld P T f with
 | some (off,_,s)=>
   if s=0 then none else
   match x with
   | .rf id tot i j=>some (.rf id tot i (j+off))
   | .pt cs=>some (.pt ((cs.drop off).take s))
   | _=>none
 | none=>none
def evIndexAddr (P:Program) (T:TypeId) (x ix:AV):Option AV:=
 match ix with
 | .int _ n=>
   match tyElem P T with
   | some e=>
     match tySz P e with
     | some s=>
       match x with
       | .sl _ xs=>
         if 0<=n then
          match xs[n.toNat]? with
          | some y=>if y.cells.length=s then some (.pt y.cells) else none
          | none=>none
         else none
       | .ms id k tot off len=>if 0<=n/\n<len/\k=s then some (.rf id tot (off+n.toNat) 0) else none
       | _=>none
     | none=>none
   | none=>
     match tyArr P T with
     | some (len,e)=>
       match tySz P e with
       | some s=>
         if 0<=n/\n<len then
          match x with
          | .rf id tot i j=>some (.rf id tot i (j+n.toNat*s))
          | .pt cs=>some (.pt (cs.drop (n.toNat*s)))
          | _=>none
         else none
       | none=>none
     | none=>none
 | _=>none
def evPart (P:Program) (T:TypeId) (cs:List AV) (off:Nat):Option AV:=
 match tyAgg P T,tySz P T with
 | some true,some s=>if off+s<=cs.length then some (.agg ((cs.drop off).take s)) else none
 | some false,some _=>cs[off]?
 | _,_=>none
def evField (P:Program) (T:TypeId) (x:AV) (f:Nat):Option AV:=
 match x,tyFld P T f with
 | .agg cs,some (off,ft,_)=>evPart P ft cs off
 | _,_=>none
def evIndex (P:Program) (T:TypeId) (x ix:AV):Option AV:=
 match x,ix with
 | .agg cs,.int _ n=>
   match tyArr P T with
   | some (len,e)=>
     match tySz P e with
     | some s=>if 0<=n/\n<len then evPart P e cs (n.toNat*s) else none
     | none=>none
   | none=>none
 | .str b,.int _ n=>
   if tyStr P T=true/\0<=n then
    match b[n.toNat]? with
    | some c=>some (.int .u8 c.toNat)
    | none=>none
   else none
 | _,_=>none
def fillC (place:Nat->Option (Nat×Nat)) (cs:List AV):List (Nat×AV)->Option (List AV)
 | []=>some cs
 | (i,v)::rest=>
   match place i with
   | none=>none
   | some (off,s)=>
     if v.cells.length=s/\off+s<=cs.length/\v.cells.all AV.ok=true then fillC place (splice cs off v.cells) rest else none
def placesOf (P:Program):List Field->Option (List (Nat×Nat))
 | []=>some []
 | f::fs=>match tySz P f.type,placesOf P fs with
   | some s,some l=>some ((f.offset,s)::l)
   | _,_=>none
def tyPlaces (P:Program) (T:TypeId):Option (List (Nat×Nat)):=
 match P.underlying T with
 | some (.struct fs)=>placesOf P fs.toList
 | _=>none
def evBuild (P:Program) (T:TypeId) (parts:List (Nat×AV)):Option AV:=
 match tyZero P T with
 | some (.agg zs)=>
   if zs.all AV.ok=true then
    match tyPlaces P T with
    | some pl=>(fillC (fun i=>pl[i]?) zs parts).map .agg
    | none=>
      match tyArr P T with
      | some (_,e)=>
        match tySz P e with
        | some s=>(fillC (fun i=>some (i*s,s)) zs parts).map .agg
        | none=>none
      | none=>none
   else none
 | _=>none
def fillE (s:Nat) (es:List AV):List (Nat×AV)->Option (List AV)
 | []=>some es
 | (i,v)::rest=>if v.cells.length=s/\i<es.length/\v.cells.all AV.ok=true then fillE s (es.set i v) rest else none
def evBuildSlice (P:Program) (T:TypeId) (len:Nat) (parts:List (Nat×AV)):Option (List AV):=
 match tyElem P T with
 | some e=>
   match tySz P e,tyZero P e with
   | some s,some z=>if len*s<=16777216/\z.cells.length=s/\0<s/\z.cells.all AV.ok=true then fillE s (List.replicate len z) parts else none
   | _,_=>none
 | none=>none
def evBin (op:BinOp) (k:IntKind) (a b:Int):Option AV:=
 match op with
 | .add=>some (.int k (k.wrap (a+b)))
 | .sub=>some (.int k (k.wrap (a-b)))
 | .mul=>some (.int k (k.wrap (a*b)))
 | .quo=>if b=0 then none else some (.int k (k.wrap (a.tdiv b)))
 | .rem=>if b=0 then none else some (.int k (a.tmod b))
 | .and=>some (.int k (k.wrap (BitVec.ofInt k.bits a &&& BitVec.ofInt k.bits b).toNat))
 | .or=>some (.int k (k.wrap (BitVec.ofInt k.bits a ||| BitVec.ofInt k.bits b).toNat))
 | .xor=>some (.int k (k.wrap (BitVec.ofInt k.bits a ^^^ BitVec.ofInt k.bits b).toNat))
 | .andNot=>some (.int k (k.wrap (BitVec.ofInt k.bits a &&& ~~~(BitVec.ofInt k.bits b)).toNat))
 | .eql=>some (.bool (a==b))
 | .neq=>some (.bool (a != b))
 | .lss=>some (.bool (decide (a<b)))
 | .leq=>some (.bool (decide (a<=b)))
 | .gtr=>some (.bool (decide (a > b)))
 | .geq=>some (.bool (decide (a >= b)))
 | _=>none
def evShift (op:BinOp) (k:IntKind) (a b:Int):Option AV:=
 if b<0 then none else
 match op with
 | .shl=>some (.int k (k.wrap (a*2 ^ (min b.toNat k.bits))))
 | .shr=>some (.int k (a.fdiv (2 ^ (min b.toNat k.bits))))
 | _=>none
def evStrOp (op:BinOp) (a b:ByteArray):Option AV:=
 match op with
 | .add=>if a.size+b.size<=1099511627776 then some (.str (a++b)) else none
 | .eql=>some (.bool (a.toList==b.toList))
 | .neq=>some (.bool !(a.toList==b.toList))
 | .lss=>some (.bool (Op.bytesLess a.toList b.toList))
 | .leq=>some (.bool (Op.bytesLess a.toList b.toList||a.toList==b.toList))
 | .gtr=>some (.bool !(Op.bytesLess a.toList b.toList||a.toList==b.toList))
 | .geq=>some (.bool !(Op.bytesLess a.toList b.toList))
 | _=>none
def eqCells:List Bool->List AV->List AV->Option Bool
 | [],[],[]=>some true
 | true::ks,.int k a::xs,.int k' b::ys=>if k=k' then(eqCells ks xs ys).map fun r=>(a==b)&&r else none
 | false::ks,.bool a::xs,.bool b::ys=>(eqCells ks xs ys).map fun r=>(a==b)&&r
 | _,_,_=>none
def flatFields (P:Program):Nat->List Field->Option (List Bool)
 | _,[]=>some []
 | i,f::fs=>
   if f.offset=i/\f.name ≠ "_" then
    match P.underlying f.type,flatFields P (i+1) fs with
    | some (.int _),some l=>some (true::l)
    | some .bool,some l=>some (false::l)
    | _,_=>none
   else none
def flatKinds (P:Program) (T:TypeId):Option (List Bool):=
 match P.underlying T with
 | some (.struct fs)=>if P.stoodInHeld T=false/\P.eqGuardType P.depth T=false then flatFields P 0 fs.toList else none
 | some (.array n e)=>if P.eqGuardType P.depth T=false then
    match P.underlying e,tySz P e with
    | some (.int _),some 1=>some (List.replicate n true)
    | _,_=>none
   else none
 | _=>none
def evEq (P:Program) (T:TypeId) (x y:AV):Option Bool:=
 match x,y with
 | .bool a,.bool b=>match P.underlying T with|some .bool=>some (a==b)|_=>none
 | .agg xs,.agg ys=>match flatKinds P T with
   | some l=>eqCells l xs ys
   | none=>none
 | .nilp,.nilp=>match P.underlying T with|some (.pointer _)=>some true|_=>none
 | .nilp,.pt _ | .nilp,.rf _ _ _ _ | .pt _,.nilp | .rf _ _ _ _,.nilp=>match P.underlying T with|some (.pointer _)=>some false|_=>none
 | .nilf,.nilf=>match P.underlying T with|some (.func _ _ _)=>some true|_=>none
 | .nilf,.clo _ _ | .clo _ _,.nilf=>match P.underlying T with|some (.func _ _ _)=>some false|_=>none
 | _,_=>none
def evBinOp (P:Program) (op:BinOp) (T:TypeId) (x y:AV):Option AV:=
 match x,y with
 | .int k a,.int k' b=>
   match op with
   | .shl=>evShift .shl k a b
   | .shr=>evShift .shr k a b
   | op=>if k=k' then evBin op k a b else none
 | .str a,.str b=>evStrOp op a b
 | x,y=>
   match op with
   | .eql=>(evEq P T x y).map .bool
   | .neq=>(evEq P T x y).map fun b=>.bool !b
   | _=>none
def evUn (op:UnOp) (x:AV):Option AV:=
 match op,x with
 | .neg,.int k n=>some (.int k (k.wrap (0-n)))
 | .xor,.int k n=>some (.int k (k.wrap (BitVec.ofInt k.bits (if k.signed then -1 else k.max) ^^^ BitVec.ofInt k.bits n).toNat))
 | .not,.bool b=>some (.bool !b)
 | _,_=>none
def evConvert (P:Program) (src dst:TypeId) (x:AV):Option AV:=
 match x with
 | .int _ n=>match tyInt P src,tyInt P dst with
   | some _,some k=>some (.int k (k.wrap n))
   | some _,none=>if tyStr P dst=true then some (.str (Utf8.encode n)) else none
   | _,_=>none
 | .str s=>if tyStr P src=true/\tyStr P dst=true then some (.str s) else none
 | _=>none
def bytesAV (s:ByteArray):List AV:=s.data.toList.map fun b=>.int .u8 b.toNat
def elemsOf (H:List MB):AV->Option (List AV)
 | .sl _ xs=>some xs
 | .ms id k tot off len=>
   match getRow H id with
   | some (k',els,_)=>if els.length=tot/\k' = k then some ((els.drop off).take len) else none
   | none=>none
 | _=>none
def bytesOf:List AV->Option (List Int)
 | []=>some []
 | .int k n::l=>if k=.u8 then(bytesOf l).map fun r=>n::r else none
 | _=>none
def strB (ns:List Int):ByteArray:=⟨(ns.map fun n=>UInt8.ofNat n.toNat).toArray⟩
def strOf (H:List MB) (x:AV):Option ByteArray:=
 match elemsOf H x with
 | some ys=>(bytesOf ys).map strB
 | none=>none
def evLen (P:Program) (T:TypeId) (x:AV):Option AV:=
 match P.underlying T with
 | some (.slice _)=>match x with
   | .sl _ xs=>some (.int .i64 xs.length)
   | .ms _ _ _ _ len=>some (.int .i64 len)
   | .psl _ l _=>some (.int .i64 l)
   | _=>none
 | some .string=>match x with
   | .str s=>some (.int .i64 s.size)
   | _=>none
 | some (.array n _)=>some (.int .i64 n)
 | some (.pointer a)=>match P.underlying a with
   | some (.array n _)=>some (.int .i64 n)
   | _=>none
 | _=>none
def roomFor (n bytes:Nat):Bool:=decide (n*bytes<=35184372088832)&&(decide (n<=35184372088832)&&decide (bytes<=1048576))
def srcElems (P:Program) (H:List MB) (e:TypeId) (x:AV):Option (List AV):=
 match x with
 | .str b=>if tyInt P e=some IntKind.u8 then some (bytesAV b) else none
 | x=>elemsOf H x
def evAppend (P:Program) (H:List MB) (sT xT:TypeId) (s x:AV):Option (AV×List MB):=
 match tyElem P sT,tyNotInt P xT with
 | some e,true=>
   match tySz P e,tyBytes P e,tyZero P e with
   | some k,some by_,some ze=>
     match srcElems P H e x with
     | none=>none
     | some ys=>
       if ys.all (fun y=>decide (y.cells.length=k)&&y.cells.all AV.ok)=true/\0<k/\ze.cells.length=k then
        match s with
        | .sl t xs=>
          match ys with
          | []=>some (s,H)
          | _=>
            if t=true/\roomFor (xs.length+ys.length) by_=true/\xs.all (fun y=>decide (y.cells.length=k))=true then
             some (.ms H.length k (xs.length+ys.length) 0 (xs.length+ys.length),H++[MB.mk (newTag P e) k (xs++ys) 0])
            else none
        | .ms id k' tot off len=>
          match getRow H id with
          | some (k'',els,z)=>
            if els.length=tot/\k'' = k/\k' = k/\off+len<=tot then
             match ys with
             | []=>some (s,H)
             | _=>
               if z<=off+len/\roomFor (len+ys.length) by_=true then
                if off+len+ys.length<=tot then
                 some (.ms id k tot off (len+ys.length),H.set id (MB.mk (keepTag P H id off e) k (els.take (off+len)++(ys++els.drop (off+len+ys.length))) z))
                else
                 some (.ms id k (off+len+ys.length) off (len+ys.length),H.set id (MB.mk (keepTag P H id off e) k (els.take (off+len)++ys) z))
               else none
            else none
          | none=>none
        | _=>none
       else none
   | _,_,_=>none
 | _,_=>none
def appCore (H:List MB) (s:AV) (ys:List AV) (k by_:Nat) (ze:AV) (nt:Option TypeId) (kt:Nat->Nat->Option TypeId):Option (AV×List MB):=
 if ys.all (fun y=>decide (y.cells.length=k)&&y.cells.all AV.ok)=true/\0<k/\ze.cells.length=k then
  match s with
  | .sl t xs=>
    match ys with
    | []=>some (s,H)
    | _=>
      if t=true/\roomFor (xs.length+ys.length) by_=true/\xs.all (fun y=>decide (y.cells.length=k))=true then
       some (.ms H.length k (xs.length+ys.length) 0 (xs.length+ys.length),H++[MB.mk nt k (xs++ys) 0])
      else none
  | .ms id k' tot off len=>
    match getRow H id with
    | some (k'',els,z)=>
      if els.length=tot/\k'' = k/\k' = k/\off+len<=tot then
       match ys with
       | []=>some (s,H)
       | _=>
         if z<=off+len/\roomFor (len+ys.length) by_=true then
          if off+len+ys.length<=tot then
           some (.ms id k tot off (len+ys.length),H.set id (MB.mk (kt id off) k (els.take (off+len)++(ys++els.drop (off+len+ys.length))) z))
          else
           some (.ms id k (off+len+ys.length) off (len+ys.length),H.set id (MB.mk (kt id off) k (els.take (off+len)++ys) z))
         else none
      else none
    | none=>none
  | _=>none
 else none
def evAppZ (P:Program) (H:List MB) (sT xT:TypeId) (s x:AV):Option (AV×List MB):=
 match tyElem P sT,tyInt P xT,x with
 | some e,some _,.int .i64 n=>
   match tySz P e,tyBytes P e,tyZero P e with
   | some k,some by_,some ze=>if 0<=n/\n<=1000000/\by_<=100000/\ze.cells.all AV.ok=true then appCore H s (List.replicate n.toNat ze) k by_ ze none (fun _ _=>none) else none
   | _,_,_=>none
 | _,_,_=>none
def mark (H:List MB) (id n:Nat):List MB:=
 match getRow H id with
 | some (k,els,z)=>H.set id (.row k els (max z n))
 | none=>H
mutual
def fzA (jump:List AV->List MB->Option (List AV×List MB)):AV->List MB->Option (AV×List MB)
 | .sl _ xs,H=>match fzL jump xs H with
   | some (ys,H')=>some (.sl false ys,H')
   | none=>none
 | .pt xs,H=>match fzL jump xs H with
   | some (ys,H')=>some (.pt ys,H')
   | none=>none
 | .agg xs,H=>match fzL jump xs H with
   | some (ys,H')=>some (.agg ys,H')
   | none=>none
 | .tup xs,H=>match fzL jump xs H with
   | some (ys,H')=>some (.tup ys,H')
   | none=>none
 | .ms id k tot off len,H=>
   match getRow H id with
   | some (k',els,_)=>
     if els.length=tot/\k' = k/\off+len<=tot then
      match jump ((els.drop off).take len) (mark H id (off+len)) with
      | some (ys,H')=>some (.sl false ys,H')
      | none=>none
     else none
   | none=>none
 | .rf id tot i j,H=>
   match getRow H id with
   | some (_,els,_)=>
     if els.length=tot then
      match els[i]? with
      | some x=>
        match jump (x.cells.drop j) (mark H id (i+1)) with
        | some (ys,H')=>some (.pt ys,H')
        | none=>none
      | none=>none
     else none
   | none=>none
 | x,H=>some (x,H)
def fzL (jump:List AV->List MB->Option (List AV×List MB)):List AV->List MB->Option (List AV×List MB)
 | [],H=>some ([],H)
 | x::xs,H=>
   match fzA jump x H with
   | some (y,H')=>
     match fzL jump xs H' with
     | some (ys,H'')=>some (y::ys,H'')
     | none=>none
   | none=>none
end
def fzJ:Nat->List AV->List MB->Option (List AV×List MB)
 | 0,_,_=>none
 | n+1,xs,H=>fzL (fzJ n) xs H
def fz (a:AV) (H:List MB):Option (AV×List MB):=fzA (fzJ 6) a H
def fzs (xs:List AV) (H:List MB):Option (List AV×List MB):=fzL (fzJ 6) xs H
def fzS (a:AV) (H:List MB):Option (AV×List MB):=fzA (fun xs G=>some (xs,G)) a H
inductive SA where
 | mat (d k:Nat)
 | matC (d j k:Nat)
 | frz (d:Nat)
 | frzC (d:Nat)
 | frzS (d:Nat)
structure Pol where
 byref:Nat->Nat->Bool
 keep:Nat->Bool
 own:Nat->Bool
 mask:Nat->Nat->Option (List Nat)
 dead:Nat->Nat->List Nat
 bdead:Nat->Nat->List Nat
 gc:Nat->Nat->Option Nat
 muts:Nat->List Nat
 pure:Nat->Bool
 ext:Nat->Option (List AV->List MB->Option (AV×List MB))
 acts:Nat->Nat->List SA
 racts:Nat->Nat->List SA
 alts:Nat->Nat->Option (Nat×Nat×List Nat)
abbrev Tm:=List (Nat×AV)
def look:Tm->Nat->Option AV
 | [],_=>none
 | (k,v)::t,d=>if k=d then some v else look t d
def lookD (t:Tm) (d:Nat):AV:=
 match look t d with
 | some v=>v
 | none=>.top
def ins (d:Nat) (v:AV):Tm->Tm
 | []=>[(d,v)]
 | (k,u)::t=>if k=d then(d,v)::t else if k<d then(d,v)::(k,u)::t else(k,u)::ins d v t
def rem1 (d:Nat):Tm->Tm
 | []=>[]
 | (k,v)::t=>if k=d then t else(k,v)::rem1 d t
def dropT:List Nat->Tm->Tm
 | [],t=>t
 | d::l,t=>dropT l (rem1 d t)
def keepT:Option (List Nat)->Tm->Tm
 | none,t=>t
 | some l,t=>t.filter fun q=>l.contains q.1
def initT:Nat->List AV->Tm->Tm
 | _,[],acc=>acc
 | i,a::as,acc=>initT (i+1) as ((i,a)::acc)
structure St where
 n:Nat
 t:Tm
 h:List MB
def St.ev (s:St):Operand->AV
 | .tmp t=>lookD s.t t
 | .const v=>ofK v
 | .global b=>match VarTab.ints b with
   | []=>.top
   | x::l=>.pt ((x::l).map fun q=>AV.int q.1 q.2)
 | .func f=>.clo f []
def St.put (s:St) (d:Option Tmp) (v:AV):St:=
 match d with
 | some i=>{ s with t:=if i<s.n then ins i v s.t else s.t }
 | none=>s
abbrev CF:=Nat->List AV->List MB->Option (AV×List MB)
abbrev yldF:Nat:=1000000000
def cfn (cf:CF) (g:Nat) (args:List AV) (H:List MB):Option (AV×List MB):=if g=yldF then none else cf g args H
def evCall (cf:CF) (ρ:Operand->AV) (H:List MB) (T:TypeId) (c:Call):Option (AV×List MB):=
 let _:=T
 match c.callee with
 | .value f=>match ρ f with
   | .clo g cs=>cfn cf g (c.args.toList.map ρ++cs) H
   | .clb g fs=>cfn cf g (fs++c.args.toList.map ρ) H
   | .yld id=>cf yldF (.yld id::c.args.toList.map ρ) H
   | _=>none
 | _=>none
def evAlone (cf:CF):CF:=fun f args H=>
 if AV.underL 0 args=true then
  match cf f args [] with
  | some (r,[])=>if AV.under 0 r=true then some (r,H) else none
  | _=>none
 else none
def thw1 (H:List MB) (x:AV):Option AV:=
 match x with
 | .ms id k tot off len=>match getRow H id with
   | some (k',els,_)=>if els.length=tot/\off=0/\len=tot/\k' = k/\els.all (fun x=>AV.underL 0 x.cells)=true then some (.sl false els) else none
   | none=>none
 | x=>if AV.under 0 x=true then some x else none
def thwL (H:List MB):List AV->Option (List AV)
 | []=>some []
 | x::xs=>match thw1 H x,thwL H xs with
   | some y,some ys=>some (y::ys)
   | _,_=>none
def thw (H:List MB) (x:AV):Option AV:=
 match x with
 | .agg cs=>(thwL H cs).map .agg
 | x=>thw1 H x
def thwA (H:List MB):List AV->Option (List AV)
 | []=>some []
 | x::xs=>match thw H x,thwA H xs with
   | some y,some ys=>some (y::ys)
   | _,_=>none
def AV.lone:AV->Bool
 | .int _ _=>true
 | .bool _=>true
 | .str _=>true
 | _=>false
def evThaw (cf:CF):CF:=fun f args H=>
 match thwA H args with
 | some as=>match cf f as [] with
   | some (r,_)=>if r.lone=true then some (r,H) else none
   | none=>none
 | none=>none
def thwDst (mu:List Nat) (d:Option Tmp):Bool:=
 match d with
 | some i=>mu.contains (2000000+i)
 | none=>false
def indDst (mu:List Nat) (d:Option Tmp):Bool:=
 match d with
 | some i=>mu.contains (1000000+i)
 | none=>false
def evMin (x y:AV):Option AV:=
 match x,y with
 | .int k a,.int _ b=>some (.int k (if b<a then b else a))
 | _,_=>none
def evMax (x y:AV):Option AV:=
 match x,y with
 | .int k a,.int _ b=>some (.int k (if b > a then b else a))
 | _,_=>none
def cellKinds (P:Program):List Field->Option (List (Option IntKind))
 | []=>some []
 | f::fs=>match P.underlying f.type,cellKinds P fs with
   | some (.int k),some l=>some (some k::l)
   | some .bool,some l=>some (none::l)
   | _,_=>none
def keyKinds (P:Program) (T:TypeId):Option (List (Option IntKind)):=
 match P.underlying T with
 | some (.array n e)=>match P.underlying e with
   | some (.int k)=>some (List.replicate n (some k))
   | _=>none
 | some (.struct fs)=>cellKinds P fs.toList
 | _=>none
def kindT (P:Program) (t:TypeId):Option (KK×TypeId):=
 match P.underlying t with
 | some (.map kt e)=>match P.underlying kt with
   | some (.int k)=>some (.int k,e)
   | some .string=>some (.str,e)
   | _=>match flatKinds P kt,keyKinds P kt with
     | some l,some ks=>if l=ks.map Option.isSome then some (.flat kt ks,e) else none
     | _,_=>none
 | _=>none
def getMp (H:List MB) (id:Nat):Option (KK×List (AV×AV)):=
 match H[id]? with
 | some (.mp q es)=>some (q,es)
 | _=>none
def lenMp (P:Program) (H:List MB) (T:TypeId) (id:Nat):Option AV:=
 match kindT P T,getMp H id with
 | some _,some (_,es)=>some (.int .i64 es.length)
 | _,_=>none
def evLenH (P:Program) (H:List MB) (T:TypeId) (x:AV):Option AV:=
 match x with
 | .mpr id=>lenMp P H T id
 | x=>evLen P T x
def evClear (P:Program) (H:List MB) (T:TypeId) (x:AV):Option (List MB):=
 match x with
 | .mpr id=>match kindT P T,getMp H id with
   | some _,some (q,_)=>some (H.set id (.mp q []))
   | _,_=>none
 | .ms id k tot off len=>match getRow H id,tyElem P T with
   | some (k',els,z),some e=>match tyZero P e with
     | some ze=>if(els.length=tot/\k' = k/\k=1)/\(off=0/\len=tot/\z=0)/\ze.ok=true then some (H.set id (.row k (List.replicate tot ze) 0))
       else if(els.length=tot/\k' = k/\1<k)/\(off+len=tot/\z=0/\ze.cells.length=k)/\ze.cells.all AV.ok=true then some (H.set id (.row k (els.take off++List.replicate len ze) 0)) else none
     | none=>none
   | _,_=>none
 | _=>none
def evCap (P:Program) (T:TypeId) (x:AV):Option AV:=
 match P.underlying T with
 | some (.slice _)=>match x with
   | .sl t xs=>if t=true then some (.int .i64 xs.length) else none
   | _=>none
 | _=>none
def nilX:AV->AV
 | .psl none 0 0=>.sl true []
 | x=>x
theorem JM:nilX (.psl none 0 0)=.sl true []:=rfl
theorem KZ (t:Bool) (xs:List AV):nilX (.sl t xs)=.sl t xs:=rfl
theorem Ka (a b c d e:Nat):nilX (.ms a b c d e)=.ms a b c d e:=rfl
def nil1:AV->AV
 | .sl true []=>.psl none 0 0
 | x=>x
def nilZ:AV->AV
 | .agg cs=>.agg (cs.map nil1)
 | x=>x
theorem LG:nilZ (.agg [.nilp,.sl true []])=.agg [.nilp,.psl none 0 0]:=rfl
def evBuiltin (P:Program) (b:Builtin) (argTypes:List TypeId) (args:List AV) (H:List MB):Option (AV×List MB):=
 match args with
 | [x]=>match b,argTypes with
   | .len,[T]=>(evLenH P H T x).map fun v=>(v,H)
   | .clear,[T]=>(evClear P H T x).map fun H'=>(.tup [],H')
   | .cap,[T]=>(evCap P T x).map fun v=>(v,H)
   | _,_=>none
 | [x,y]=>match b with
   | .append=>match argTypes with
     | [sT,xT]=>match tyNotInt P xT with
       | true=>evAppend P H sT xT (nilX x) y
       | false=>evAppZ P H sT xT x y
     | _=>none
   | .min=>(evMin x y).map fun v=>(v,H)
   | .max=>(evMax x y).map fun v=>(v,H)
   | _=>none
 | _=>none
def evMakeSlice (P:Program) (H:List MB) (T:TypeId) (l c:AV):Option (AV×List MB):=
 match tyElem P T,l,c with
 | some e,.int _ n,.int _ m=>
   match tySz P e,tyBytes P e,tyZero P e with
   | some k,some by_,some z=>
     if 0<=n/\n<=m/\roomFor m.toNat by_=true/\0<k/\z.cells.length=k/\z.cells.all AV.ok=true then
      some (.ms H.length k n.toNat 0 n.toNat,H++[.row k (List.replicate n.toNat z) 0])
     else none
   | _,_,_=>none
 | _,_,_=>none
def bnd (x:AV) (y:Nat):Option Nat:=
 match x with
 | .int _ n=>if 0<=n/\n<=y then some n.toNat else none
 | _=>none
def bndO (x:Option AV) (y d:Nat):Option Nat:=
 match x with
 | some v=>bnd v y
 | none=>some d
def bndH (x:Option AV) (y:Nat):Option Nat:=
 match x with
 | some v=>bnd v y
 | none=>none
def evSlice (P:Program) (H:List MB) (T:TypeId) (x:AV) (lo hi mx:Option AV):Option (AV×List MB):=
 match x,mx with
 | .str s,none=>
   if tyStr P T=true then
    match bndO hi s.size s.size with
    | some h=>match bndO lo h 0 with
      | some l=>some (.str (s.extract l h),H)
      | none=>none
    | none=>none
   else none
 | .sl t xs,none=>
   match tyElem P T with
   | some e=>
     match tySz P e with
     | some s=>
       if(xs.all fun y=>decide (y.cells.length=s))=true then
        match bndO hi xs.length xs.length with
        | some h=>match bndO lo h 0 with
          | some l=>some (.sl (t&&decide (h=xs.length)) ((xs.take h).drop l),H)
          | none=>none
        | none=>none
       else none
     | none=>none
   | none=>none
 | .sl _ xs,some mv=>
   match tyElem P T with
   | some e=>
     match tySz P e with
     | some s=>
       if(xs.all fun y=>decide (y.cells.length=s))=true then
        match bnd mv xs.length with
        | some m=>match bndH hi m with
          | some h=>match bndO lo h 0 with
            | some l=>some (.sl (decide (h=m)) ((xs.take h).drop l),H)
            | none=>none
          | none=>none
        | none=>none
       else none
     | none=>none
   | none=>none
 | .ms id k tot off len,none=>
   match tyElem P T with
   | some e=>
     match tySz P e with
     | some s=>
       if s=k/\0<s then
        match bndO hi len len with
        | some h=>match bndO lo h 0 with
          | some l=>some (.ms id k tot (off+l) (h-l),H)
          | none=>none
        | none=>none
       else none
     | none=>none
   | none=>none
 | _,_=>none
def chunks (n s:Nat) (cs:List AV):List AV:=if s=1 then cs else(List.range n).map fun i=>.agg ((cs.drop (i*s)).take s)
def evSliceArr (P:Program) (H:List MB) (n:Nat) (e:TypeId) (x:AV) (lo hi mx:Option AV):Option (AV×List MB):=
 match x,mx with
 | .pt cs,none=>
   match tySz P e with
   | some s=>
     if 1<=s/\cs.length=n*s/\(s=1->cs.all AV.ok=true) then
      match bndO hi n n with
      | some h=>match bndO lo h 0 with
        | some l=>some (.sl false (((chunks n s cs).take h).drop l),H)
        | none=>none
      | none=>none
     else none
   | none=>none
 | _,_=>none
def mutDst (mu:List Nat) (d:Option Tmp):Bool:=
 match d with
 | some i=>mu.contains i
 | none=>false
def boxDst (mu:List Nat) (d:Option Tmp):Bool:=
 match d with
 | some i=>mu.contains (4000000+i)
 | none=>false
def tagDst (mu:List Nat) (d:Option Tmp):Bool:=
 match d with
 | some i=>mu.contains (5000000+i)
 | none=>false
def tySzE (P:Program) (T:TypeId):Option Nat:=
 match tyElem P T with
 | some e=>tySz P e
 | none=>none
def cellsOk:List (Option IntKind)->List AV->Bool
 | [],[]=>true
 | some k::ks,.int k' _::cs=>decide (k' = k)&&cellsOk ks cs
 | none::ks,.bool _::cs=>cellsOk ks cs
 | _,_=>false
def keyOk:KK->AV->Bool
 | .int k,.int k' _=>decide (k' = k)
 | .str,.str _=>true
 | .flat _ ks,.agg cs=>cellsOk ks cs
 | _,_=>false
def findMp (x:AV):List (AV×AV)->Option AV
 | []=>none
 | (k,v)::es=>if AV.beq k x=true then some v else findMp x es
def updMp (x v:AV):List (AV×AV)->List (AV×AV)
 | []=>[(x,v)]
 | (k,u)::es=>if AV.beq k x=true then(k,v)::es else(k,u)::updMp x v es
def evLookup (P:Program) (H:List MB) (t:TypeId) (x i:AV) (c:Bool):Option AV:=
 match kindT P t with
 | some (q,e)=>
   if keyOk q i=true then
    match (match x with
     | .nilm=>some none
     | .mpr id=>match getMp H id with
       | some (q',es)=>if q' = q then some (findMp i es) else none
       | none=>none
     | _=>none) with
    | some (some v)=>some (if c=true then .tup [v,.bool true] else v)
    | some none=>match tyZero P e with
      | some z=>if z.cells.all AV.ok=true then some (if c=true then .tup [z,.bool false] else z) else none
      | none=>none
    | none=>none
   else none
 | none=>none
def evMapUpd (P:Program) (H:List MB) (t:TypeId) (m k v:AV):Option (List MB):=
 match kindT P t,m with
 | some (q,_),.mpr id=>match getMp H id with
   | some (q',es)=>if q' = q/\keyOk q k=true then some (H.set id (.mp q (updMp k v es))) else none
   | none=>none
 | _,_=>none
def resOk:Option AV->Bool
 | none=>true
 | some (.int _ _)=>true
 | _=>false
def evOp (P:Program) (cf:CF) (mu:List Nat) (ρ:Operand->AV) (H:List MB) (o:Oper):Option (AV×List MB):=
 match o.op with
 | .move x | .assign x=>some (ρ x,H)
 | .pick c a b=>match ρ c with
   | .bool t=>some (if t then ρ a else ρ b,H)
   | _=>none
 | .alloc e=>match tyZero P e with
   | some z=>if z.cells.all AV.ok=true then(if tagDst mu o.dst=true then(if 0<z.cells.length then some (.rf H.length 1 0 0,H++[.tr e z.cells.length [nilZ z] 0]) else none) else some (.rf H.length 1 0 0,H++[.row z.cells.length [z] 0])) else none
   | none=>none
 | .box _ x=>if(ρ x).cells.all AV.ok=true then(if boxDst mu o.dst=true then some (.pt (ρ x).cells,H) else some (.rf H.length 1 0 0,H++[.row (ρ x).cells.length [ρ x] 0])) else none
 | .build t parts=>(evBuild P t (parts.toList.map fun q=>(q.1,ρ q.2))).map fun v=>(v,H)
 | .buildSlice t n parts=>match evBuildSlice P t n (parts.toList.map fun q=>(q.1,ρ q.2)) with
   | some es=>if mutDst mu o.dst=true then(tySzE P t).map fun k=>(.ms H.length k n 0 n,H++[.row k es 0]) else some (.sl true es,H)
   | none=>none
 | .load t a=>match cellsAt H (ρ a) with
   | some cs=>(mkVal P t cs).map fun v=>(v,H)
   | none=>none
 | .store t a x=>(evStore P H t (ρ a) (ρ x)).map fun H'=>(.tup [],H')
 | .nilCheck x=>match ρ x with
   | .pt cs=>some (.pt cs,H)
   | .rf a b c d=>some (.rf a b c d,H)
   | .clo f cs=>some (.clo f cs,H)
   | _=>none
 | .binOp op t x y _=>(evBinOp P op t (ρ x) (ρ y)).map fun v=>(v,H)
 | .unOp op _ x=>(evUn op (ρ x)).map fun v=>(v,H)
 | .convert s d x=>match tyElem P s with
   | some e=>if tyInt P e=some .u8/\tyStr P d=true then(strOf H (ρ x)).map fun b=>(.str b,H) else none
   | none=>(evConvert P s d (ρ x)).map fun v=>(v,H)
 | .makeFunc (.func f) first cap=>if first.size=0 then some (.clo f (cap.toList.map ρ),H) else if cap.size=0 then some (.clb f (first.toList.map ρ),H) else none
 | .makeSlice t l c=>evMakeSlice P H t (ρ l) (ρ c)
 | .slice t x lo hi mx=>match tyArr P t with
   | some (n,e)=>evSliceArr P H n e (ρ x) (lo.map ρ) (hi.map ρ) (mx.map ρ)
   | none=>evSlice P H t (ρ x) (lo.map ρ) (hi.map ρ) (mx.map ρ)
 | .fieldAddr t x f=>(evFieldAddr P t (ρ x) f).map fun v=>(v,H)
 | .field t x f=>(evField P t (ρ x) f).map fun v=>(v,H)
 | .indexAddr t x i=>(evIndexAddr P t (ρ x) (ρ i)).map fun v=>(v,H)
 | .index t x i=>(evIndex P t (ρ x) (ρ i)).map fun v=>(v,H)
 | .extract x i=>match ρ x with
   | .tup vs=>(vs[i]?).map fun v=>(v,H)
   | _=>none
 | .makeMap t r=>match kindT P t with
   | some (q,_)=>if resOk (r.map ρ)=true then some (.mpr H.length,H++[.mp q []]) else none
   | none=>none
 | .lookup t x i c=>(evLookup P H t (ρ x) (ρ i) c).map fun v=>(v,H)
 | .mapUpdate t m k v=>(evMapUpd P H t (ρ m) (ρ k) (ρ v)).map fun H'=>(.tup [],H')
 | .insert t m k v=>(evMapUpd P H t (ρ m) (ρ k) (ρ v)).map fun H'=>(.tup [],H')
 | .call c=>match c.callee with
   | .builtin b=>evBuiltin P b c.argTypes.toList (c.args.toList.map ρ) H
   | _=>if indDst mu o.dst=true then evCall (evAlone cf) ρ H o.type c else if thwDst mu o.dst=true then evCall (evThaw cf) ρ H o.type c else evCall cf ρ H o.type c
 | _=>none
def evWanted (ops:List Oper) (s:St) (o:Oper):Option Bool:=
 match o.guard with
 | none=>some true
 | some (j,w)=>
   match ops[j]? with
   | some q=>match q.dst with
     | some d=>match look s.t d with
       | some (.bool b)=>some (b==w)
       | some (.tup [])=>some false
       | _=>none
     | none=>some false
   | none=>some false
def evOne (P:Program) (cf:CF) (mu:List Nat) (ops:List Oper) (o:Oper) (s:St):Option St:=
 match evWanted ops s o with
 | some true=>match evOp P cf mu s.ev s.h o with
   | some (v,H)=>some (({ s with h:=H }:St).put o.dst v)
   | none=>none
 | some false=>some (s.put o.dst (.tup []))
 | none=>none
def evOps (P:Program) (cf:CF) (mu:List Nat) (ops:List Oper):List Oper->St->Option St
 | [],s=>some s
 | o::rest,s=>match evOne P cf mu ops o s with
   | some s'=>evOps P cf mu ops rest s'
   | none=>none
inductive FP where
 | rd (id:Nat)
 | gen (H H':List MB)
 | mk (n:Nat)
 | wr (id:Nat)
def footprint0 (mu:List Nat) (ρ:Operand->AV) (o:Oper) (H H':List MB):Option FP:=
 match o.op with
 | .load _ a=>match ρ a with
   | .pt _=>none
   | .rf id _ _ _=>some (.rd id)
   | _=>some (.gen H H')
 | .call c=>match c.callee with
   | .builtin .len=>match c.args.toList.map ρ with
     | [.mpr id]=>some (.rd id)
     | _=>none
   | .builtin .min=>none
   | .builtin .max=>none
   | .builtin _=>some (.gen H H')
   | _=>if indDst mu o.dst=true then none else some (.gen H H')
 | .convert _ _ x=>match ρ x with
   | .ms id _ _ _ _=>some (.rd id)
   | _=>none
 | .lookup _ x _ _=>match ρ x with
   | .nilm=>none
   | .mpr id=>some (.rd id)
   | _=>some (.gen H H')
 | .store .. | .alloc _ | .makeSlice .. | .makeMap .. | .mapUpdate .. | .insert ..=>some (.gen H H')
 | .box ..=>if boxDst mu o.dst=true then none else some (.gen H H')
 | .buildSlice ..=>if mutDst mu o.dst=true then some (.gen H H') else none
 | _=>none
def fineF (mu:List Nat) (ρ:Operand->AV) (o:Oper) (H H':List MB):Option FP:=
 match o.op with
 | .store _ a _=>match ρ a with
   | .rf id _ _ _=>some (.wr id)
   | _=>footprint0 mu ρ o H H'
 | .alloc _ | .makeSlice .. | .makeMap ..=>some (.mk H.length)
 | _=>footprint0 mu ρ o H H'
def footprint (mu:List Nat) (ρ:Operand->AV) (o:Oper) (H H':List MB):Option FP:=
 if mu.contains 3000000=true then fineF mu ρ o H H' else footprint0 mu ρ o H H'
def evOpsD (P:Program) (cf:CF) (mu:List Nat) (ops:List Oper):Nat->List Oper->St->Option (List (Nat×FP)×St)
 | _,[],s=>some ([],s)
 | i,o::rest,s=>
   match evWanted ops s o with
   | some w=>
     match evOne P cf mu ops o s with
     | some s'=>
       match evOpsD P cf mu ops (i+1) rest s' with
       | some (l,s'')=>
         some (match (if w=true then footprint mu s.ev o s.h s'.h else none) with
          | some p=>(i,p)::l
          | none=>l,s'')
       | none=>none
     | none=>none
   | none=>none
def dEdge (ops:Array Oper) (i x:Nat):Bool:=
 match ops[i]? with
 | some o=>o.after.toList.any fun e=>Region.binds .any e&&e.on==x
 | none=>false
def drawOk (ops:Array Oper):Bool:=
 ((List.range ops.size).all fun i=>match ops[i]? with
   | some o=>o.after.toList.all fun e=>!Region.binds .any e||decide (e.on<i)
   | none=>true) &&
 (List.range ops.size).all fun i=>(List.range i).all fun x=>
   dEdge ops i x||(match ops[x]?,ops[i]? with
    | some p,some q=>p.apart ops q
    | _,_=>true)
def sameAt (id:Nat) (H H':List MB):Bool:=
 match H[id]?,H'[id]? with
 | some x,some y=>MB.beq x y
 | none,none=>true
 | _,_=>false
def FP.apart:FP->FP->Bool
 | .rd _,.rd _=>true
 | .rd id,.gen H H'=>sameAt id H H'
 | .gen H H',.rd id=>sameAt id H H'
 | .gen H H',.gen G G'=>heapEq H' H&&heapEq G' G
 | .wr i,.wr j=>!(i==j)
 | .wr i,.rd j=>!(i==j)
 | .rd i,.wr j=>!(i==j)
 | .mk i,.wr j=>!(i==j)
 | .wr i,.mk j=>!(i==j)
 | .mk i,.rd j=>!(i==j)
 | .rd i,.mk j=>!(i==j)
 | _,_=>false
def dEdgeT (ops:Array Oper):Nat->Nat->Nat->Bool
 | 0,_,_=>false
 | n+1,i,x=>dEdge ops i x||(List.range ops.size).any fun y=>dEdge ops i y&&dEdgeT ops n y x
def pairsOk (ops:Array Oper):List (Nat×FP)->Bool
 | []=>true
 | (i,p)::l=>(l.all fun q=>dEdgeT ops ops.size q.1 i||p.apart q.2)&&pairsOk ops l
def evOpsI (P:Program) (cf:CF) (mu:List Nat) (ops:List Oper):List Nat->St->Option (List (Nat×FP)×St)
 | [],s=>some ([],s)
 | i::rest,s=>
   match ops[i]? with
   | none=>none
   | some o=>
     match evWanted ops s o with
     | some w=>
       match evOne P cf mu ops o s with
       | some s'=>
         match evOpsI P cf mu ops rest s' with
         | some (l,s'')=>
           some (match (if w=true then footprint mu s.ev o s.h s'.h else none) with
            | some p=>(i,p)::l
            | none=>l,s'')
         | none=>none
       | none=>none
     | none=>none
def tmEq:Tm->Tm->Bool
 | [],[]=>true
 | (k,v)::t,(k',v')::t'=>(k==k')&&(AV.beq v v'&&tmEq t t')
 | _,_=>false
def St.beq (s s':St):Bool:=(s.n==s'.n)&&(tmEq s.t s'.t&&heapEq s.h s'.h)
def AV.swp (n:Nat):AV->AV->Bool
 | .ms i k t o l,.ms i' k' t' o' l'=>(k==k'&&(t==t'&&(o==o'&&l==l')))&&(((i==i')&&decide (i<n))||((i==n&&i'==n+1)||(i==n+1&&i'==n)))
 | v,v'=>AV.beq v v'&&AV.under n v
def tmSwp (n:Nat):Tm->Tm->Bool
 | [],[]=>true
 | (k,v)::t,(k',v')::t'=>(k==k')&&(AV.swp n v v'&&tmSwp n t t')
 | _,_=>false
def swpT (n:Nat):List MB->List MB->Bool
 | [a,b],[c,d]=>MB.beq a d&&(MB.beq b c&&(MB.under n a&&MB.under n b))
 | _,_=>false
def St.swp (n:Nat) (s s':St):Bool:=
 (s.n==s'.n)&&(tmSwp n s.t s'.t&&(heapEq (s.h.take n) (s'.h.take n)&&((s.h.take n).all (MB.under n)&&swpT n (s.h.drop n) (s'.h.drop n))))
def pairsX (ops:Array Oper) (p q:Nat):List (Nat×FP)->Bool
 | []=>true
 | (i,f)::l=>(l.all fun g=>dEdgeT ops ops.size g.1 i||(FP.apart f g.2||((i==p)&&(g.1==q))))&&pairsX ops p q l
def ordOk (ops:Array Oper) (p q:Nat):List Nat->Bool
 | []=>true
 | x::l=>(decide (x<ops.size)&&(l.all fun i=>!(dEdge ops x i)&&(!(x==i)&&!((x==p)&&(i==q)))))&&ordOk ops p q l
def altO (ops:Array Oper) (p q:Nat) (ord:List Nat):Bool:=
 (decide (p<q)&&decide (q<ops.size))&&((ord.length==ops.size)&&(((List.range ops.size).all fun j=>ord.contains j)&&ordOk ops p q ord))
def evRegion (P:Program) (cf:CF) (mu:List Nat) (ops:Array Oper) (alt:Option (Nat×Nat×List Nat)) (draw:Bool) (s:St):Option St:=
 if draw=true then
  match alt with
  | none=>
    match evOpsD P cf mu ops.toList 0 ops.toList s with
    | some (l,s')=>if drawOk ops=true/\pairsOk ops l=true then some s' else none
    | none=>none
  | some (p,q,ord)=>
    match evOpsD P cf mu ops.toList 0 ops.toList s with
    | some (l,s')=>
      match evOpsI P cf mu ops.toList ord s with
      | some (l2,s2)=>if drawOk ops=true/\altO ops p q ord=true/\pairsX ops p q l=true/\pairsX ops q p l2=true/\(St.beq s' s2||St.swp s.h.length s' s2)=true then some s' else none
      | none=>none
    | none=>none
 else evOps P cf mu ops.toList ops.toList s
structure Msk where
 k:Option (List Nat)
 gc:Option Nat
 acts:List SA
structure Cfg where
 rf:Option Nat
 lp:Nat->Msk
 dd:Nat->List Nat
 ra:Nat->List SA
 bd:Nat->List Nat
 al:Nat->Option (Nat×Nat×List Nat)
def dropSt (l:List Nat) (s:St):St:={ s with t:=dropT l s.t }
def updT (d:Nat) (v:AV):Tm->Tm
 | []=>[]
 | (k,u)::t=>if k=d then(k,v)::t else(k,u)::updT d v t
def frzB (s:St) (id:Nat):St:=
 match getRow s.h id with
 | some (_,els,_)=>match fzs els s.h with
   | some (els',H')=>match getRow H' id with
     | some (k',els2,z')=>if AV.beqL els2 els=true then⟨s.n,s.t,H'.set id (.row k' els' z')⟩ else s
     | none=>s
   | none=>s
 | none=>s
def act1 (s:St):SA->St
 | .mat d k=>match look s.t d with
   | some (.sl true [])=>⟨s.n,updT d (.ms s.h.length k 0 0 0) s.t,s.h++[.row k [] 0]⟩
   | _=>s
 | .matC d j k=>match look s.t d with
   | some (.rf id tot i _)=>match getRow s.h id with
     | some (kk,els,z)=>if els.length=tot then
        match els[i]? with
        | some x=>match x.cells[j]? with
          | some (.sl true [])=>⟨s.n,s.t,s.h.set id (.row kk (els.set i (setCells x j [.ms s.h.length k 0 0 0])) z)++[.row k [] 0]⟩
          | _=>s
        | none=>s
       else s
     | none=>s
   | _=>s
 | .frz d=>match look s.t d with
   | some v=>match fz v s.h with
     | some (v',H')=>⟨s.n,updT d v' s.t,H'⟩
     | none=>s
   | none=>s
 | .frzS d=>match look s.t d with
   | some v=>match fzS v s.h with
     | some (v',H')=>⟨s.n,updT d v' s.t,H'⟩
     | none=>s
   | none=>s
 | .frzC d=>match look s.t d with
   | some (.rf id _ _ _)=>frzB s id
   | some (.ms id _ _ _ _)=>frzB s id
   | _=>s
def actL:List SA->St->St
 | [],s=>s
 | a::l,s=>actL l (act1 s a)
def prepG (m:Msk) (s:St):St:=
 match m.gc with
 | none=>⟨s.n,keepT m.k s.t,s.h⟩
 | some n=>if AV.underL n ((keepT m.k s.t).map (·.2))=true/\(s.h.take n).all (MB.under n)=true then⟨s.n,keepT m.k s.t,s.h.take n⟩ else⟨s.n,keepT m.k s.t,s.h⟩
def prep (m:Msk) (s:St):St:=prepG m (actL m.acts s)
def mskOf (k:Nat->Option (List Nat)) (gc:Nat->Option Nat) (ac:Nat->List SA) (n:Nat) (i:Nat):Msk:=
 match gc i with
 | none=>⟨k i,none,ac i⟩
 | some g=>if 1000<=g then⟨k i,some (n+(g-1000)),ac i⟩ else if n<=g then⟨k i,some g,ac i⟩ else⟨k i,none,ac i⟩
def cfgOf (pol:Pol) (f n:Nat):Cfg:=⟨some f,mskOf (pol.mask f) (pol.gc f) (pol.acts f) n,pol.dead f,pol.racts f,pol.bdead f,pol.alts f⟩
def loopId:Code->Nat
 | .region id _ _=>id
 | .seq a _=>loopId a
 | .cond _ a _=>loopId a
 | .block _ b=>loopId b
 | .scope b=>loopId b
 | .loop b=>loopId b
 | _=>0
def iterN (b:St->Option (EX×St)) (m:Msk):Nat->St->Option (EX×St)
 | 0,_=>none
 | n+1,s=>
   match b (prep m s) with
   | some (.norm,s')=>iterN b m n s'
   | r=>r
abbrev It:=(St->Option (EX×St))->Msk->St->Option (EX×St)
def endLp (H':List MB) (id:Nat) (s:St):Option (EX×St):=
 match H'[id]? with
 | some (.lp .ready f n _ ps c)=>some (.norm,⟨s.n,s.t,H'.set id (.lp .over f n [] ps c)⟩)
 | some (.lp (.done e) f n _ ps c)=>some (e,⟨s.n,s.t,H'.set id (.lp .over f n [] ps c)⟩)
 | _=>none
def evCode (P:Program) (cf:CF) (it:It) (mu:List Nat) (m:Cfg):Code->St->Option (EX×St)
 | .skip,s=>some (.norm,s)
 | .label _,s=>some (.norm,s)
 | .region id ops draw,s=>(evRegion P cf mu ops (m.al id) draw s).map fun s'=>(.norm,dropSt (m.dd id) (actL (m.ra id) s'))
 | .seq a b,s=>match evCode P cf it mu m a s with
   | some (.norm,s')=>evCode P cf it mu m b s'
   | r=>r
 | .cond c x y,s=>match s.ev c with
   | .bool true=>evCode P cf it mu m x s
   | .bool false=>evCode P cf it mu m y s
   | _=>none
 | .block id b,s=>match evCode P cf it mu m b s with
   | some (.exit id',s')=>if id' = id then some (.norm,dropSt (m.bd id) s') else some (.exit id',s')
   | some (.norm,s')=>some (.norm,dropSt (m.bd id) s')
   | r=>r
 | .loop b,s=>it (fun s=>evCode P cf it mu m b s) (m.lp (loopId b)) s
 | .scope b,s=>evCode P cf it mu m b s
 | .exit id,s=>some (.exit id,s)
 | .ret,s=>some (.ret,s)
 | .rangeFunc g ps asg b,s=>match m.rf,s.ev g with
   | some f,.clo h cs=>match cfn cf h (.yld s.h.length::cs) (s.h++[.lp .ready f s.n (keepT (m.lp (loopId b)).k s.t) ps.toList (asg,b)]) with
     | some (_,H')=>endLp H' s.h.length s
     | none=>none
   | _,_=>none
 | _,_=>none
def frzArgs (pol:Pol) (f:Nat):Nat->List AV->List MB->Option (List AV×List MB)
 | _,[],H=>some ([],H)
 | i,x::xs,H=>
   match (if pol.byref f i=true then some (x,H) else fz x H) with
   | some (y,H')=>
     match frzArgs pol f (i+1) xs H' with
     | some (ys,H'')=>some (y::ys,H'')
     | none=>none
   | none=>none
def evResult (P:Program) (s:St):ResultVar->Option AV
 | .tmp t=>look s.t t
 | .cell a T=>match look s.t a with
   | some p=>match cellsAt s.h p with
     | some cs=>mkVal P T cs
     | none=>none
   | none=>none
def evResults (P:Program) (s:St):List ResultVar->Option (List AV)
 | []=>some []
 | r::rs=>match evResult P s r with
   | some v=>match evResults P s rs with
     | some vs=>some (v::vs)
     | none=>none
   | none=>none
def packRes:List AV->AV
 | [v]=>v
 | vs=>.tup vs
def retPol (pol:Pol) (f:Nat) (H1:List MB) (r:AV) (H:List MB):Option (AV×List MB):=
 if pol.keep f=true then some (r,H)
 else
  match (if pol.own f=true then r else .top) with
  | .ms id k tot off len=>
    match getRow H id with
    | some (k',els,_)=>
      if H1.length<=id/\els.length=tot/\k' = k/\off+len<=tot then
       match fzs ((els.drop off).take len) H with
       | some (xs,H')=>
         match getRow H' id with
         | some (_,_,z')=>
           if AV.underL H1.length xs=true/\keptOk H1.length H1 H' = true/\xs.length=len/\z'<=off+len then
            some (AV.ms H1.length k len 0 len,H'.take H1.length++[MB.row k xs (z'-off)])
           else none
         | none=>none
       | none=>none
      else none
    | none=>none
  | _=>
    match fz r H with
    | some (r',H')=>if AV.under H1.length r' = true/\keptOk H1.length H1 H' = true then some (r',H'.take H1.length) else none
    | none=>none
def evBody (P:Program) (pol:Pol) (cf:CF) (it:It):CF:=fun f args H=>
 match pol.ext f with
 | some g=>g args H
 | none=>
 match P.funcs[f]? with
 | none=>none
 | some fn=>
   match fn.body with
   | none=>none
   | some c=>
     if fn.name = "runtime.NumGoroutine" then none else
     match frzArgs pol f 0 args H with
     | none=>none
     | some (as,H1)=>
       match evCode P cf it (pol.muts f) (cfgOf pol f H1.length) c { n:=as.length+(fn.ntmps-as.length),t:=initT 0 as [],h:=H1 } with
       | some (.norm,s)|some (.ret,s)=>
         match evResults P s fn.results.toList with
         | some vs=>retPol pol f H1 (packRes vs) s.h
         | none=>none
       | _=>none
def rebase (H:List MB):Option (AV×List MB)->Option (AV×List MB)
 | some (r,[])=>if AV.under 0 r=true then some (r,H) else none
 | some (.ms 0 k tot off len,[.row k' els z])=>if AV.underL 0 els=true then some (.ms H.length k tot off len,H++[.row k' els z]) else none
 | _=>none
def bindPs:List Nat->List AV->St->Option St
 | [],[],s=>some s
 | p::ps,a::as,s=>if p<s.n then bindPs ps as (s.put (some p) a) else none
 | _,_,_=>none
def beginRd (id:Nat) (s:St) (f n:Nat) (t:Tm) (ps:List Nat) (c:Code×Code):Option St:=
 match s.h[id]? with
 | some (.lp .ready f' n' t' ps' c')=>if(f' = f/\n' = n/\ps' = ps)/\MB.beqT t' t=true/\codeEq c' c=true then some ⟨s.n,s.t,s.h.set id (.lp .busy f n t ps c)⟩ else none
 | _=>none
def endRd (id:Nat) (e:EX) (s:St) (f n:Nat) (t:Tm) (ps:List Nat) (c:Code×Code):Option (AV×List MB):=
 match s.h[id]? with
 | some (.lp .busy f' n' t' ps' c')=>if(f' = f/\n' = n/\ps' = ps)/\MB.beqT t' t=true/\codeEq c' c=true then
    match e with
    | .norm=>some (.bool true,s.h.set id (.lp .ready f n t ps c))
    | e=>some (.bool false,s.h.set id (.lp (.done e) f n t ps c))
   else none
 | _=>none
def evYield (P:Program) (pol:Pol) (cf:CF) (it:It) (args:List AV) (H:List MB):Option (AV×List MB):=
 match args with
 | .yld id::as=>match H[id]? with
   | some (.lp .ready f n t ps c)=>match bindPs ps as ⟨n,t,H⟩ with
     | some s=>match evCode P cf it (pol.muts f) { cfgOf pol f H.length with rf:=none } c.1 s with
       | some (.norm,s1)=>match beginRd id s1 f n t ps c with
         | some s2=>match evCode P cf it (pol.muts f) { cfgOf pol f H.length with rf:=none } c.2 s2 with
           | some (e,s')=>endRd id e s' f n t ps c
           | none=>none
         | none=>none
       | _=>none
     | none=>none
   | _=>none
 | _=>none
def evStep (P:Program) (pol:Pol) (cf:CF) (it:It):CF:=fun f args H=>
 if pol.pure f=true then
  match frzArgs pol f 0 args H with
  | some (as,H1)=>if AV.underL 0 as=true then rebase H1 (evBody P pol cf it f as []) else none
  | none=>none
 else if f=yldF then evYield P pol cf it args H
 else evBody P pol cf it f args H
def evF (P:Program) (pol:Pol) (n:Nat):Nat->CF
 | 0,_,_,_=>none
 | k+1,f,args,H=>evStep P pol (evF P pol n k) (fun b m s=>iterN b m n s) f args H
end
variable [VarTab]
set_option linter.unusedSectionVars false
open Go.RowKit
def scal (v:Value):Bool:=v.oneCell'
structure Lay where
 k:Nat
 tot:Nat
 b:Nat
 n:Nat
 o:Nat
 sh:Nat
structure Imm where
 c:Nat->Nat->Option Value
 g:Nat->Bool
 vars:∀(b j:Nat) (x:IntKind×Int),(VarTab.ints b)[j]?=some x->c b j=some (.int x.1 x.2)
instance:CoeFun Imm (fun _=>Nat->Nat->Option Value):=⟨Imm.c⟩
structure Grows (I I':Imm):Prop where
 c:∀ b o v,I b o=some v->I' b o=some v
 g:∀ D,I.g D=true->I'.g D=true
theorem Grows.refl (I:Imm):Grows I I:=⟨fun _ _ _ h=>h,fun _ h=>h⟩
theorem Grows.trans {I I' I'':Imm} (h:Grows I I') (h':Grows I' I''):Grows I I'':=⟨fun b o v e=>h'.c b o v (h.c b o v e),fun D e=>h'.g D (h.g D e)⟩
inductive Rep (I:Imm) (L:List Lay):AV->Value->Prop where
 | top (v:Value):Rep I L .top v
 | int (k:IntKind) (n:Int):Rep I L (.int k n) (.int k n)
 | bool (b:Bool):Rep I L (.bool b) (.bool b)
 | str (s:ByteArray):Rep I L (.str s) (.string s)
 | nilp:Rep I L .nilp (.pointer none)
 | nilf:Rep I L .nilf .nilFunc
 | nili:Rep I L .nili .nilIface
 | nilm:Rep I L .nilm (.map none)
 | nilsl (t:Bool):Rep I L (.sl t []) (.slice none 0 0)
 | sl (t:Bool) (xs:List AV) (b o c k:Nat) (f:Nat->Nat->Value) (hc:xs.length<=c) (ht:t=true->c=xs.length) (hk:∀ x∈xs,x.cells.length=k)
    (hI:∀ i j x y,xs[i]?=some x->x.cells[j]?=some y->I b (o+i*k+j)=some (f i j)/\scal (f i j)=true)
    (hR:∀ i j x y,xs[i]?=some x->x.cells[j]?=some y->Rep I L y (f i j)):Rep I L (.sl t xs) (.slice (some ⟨b,o,none⟩) xs.length c)
 | pt (cs:List AV) (b o:Nat) (f:Nat->Value) (hI:∀ j y,cs[j]?=some y->I b (o+j)=some (f j)/\scal (f j)=true)
    (hR:∀ j y,cs[j]?=some y->Rep I L y (f j)):Rep I L (.pt cs) (.pointer (some ⟨b,o,none⟩))
 | rf (id tot i j:Nat) (l:Lay) (b o:Nat) (hL:L[id]?=some l) (ht:tot<=l.tot) (hv:tot=l.tot->l.sh<=i/\b=l.b/\o=l.o+(i-l.sh)*l.k+j) :
    Rep I L (.rf id tot i j) (.pointer (some ⟨b,o,none⟩))
 | ms (id k tot off len:Nat) (l:Lay) (b o c:Nat) (hL:L[id]?=some l) (ht:tot<=l.tot) (hk:l.k=k) (hl:off+len<=tot) (hc:len<=c)
    (hv:tot=l.tot->l.sh<=off/\b=l.b/\(c≠0->o=l.o+(off-l.sh)*k)/\tot<=off+c/\l.o+(off-l.sh+c)*k<=l.n) :
    Rep I L (.ms id k tot off len) (.slice (some ⟨b,o,none⟩) len c)
 | mpr (id:Nat) (l:Lay) (b:Nat) (hL:L[id]?=some l) (hv:l.tot=0->b=l.b):Rep I L (.mpr id) (.map (some b))
 | yld (id:Nat) (l:Lay) (q:Nat) (hL:L[id]?=some l) (hv:l.tot=0->q=l.b):Rep I L (.yld id) (.func (.yield q) #[] #[])
 | psn (l c:Nat):Rep I L (.psl none l c) (.slice none l c)
 | pss (b o l c:Nat):Rep I L (.psl (some (b,o)) l c) (.slice (some ⟨b,o,none⟩) l c)
 | msn (id k:Nat) (l:Lay) (hL:L[id]?=some l) (hk:l.k=k):Rep I L (.ms id k 0 0 0) (.slice none 0 0)
 | clo (f:Nat) (cs:List AV) (ws:Array Value) (hn:ws.size=cs.length) (hR:∀ i y,cs[i]?=some y->Rep I L y (ws.getD i undef)):Rep I L (.clo f cs) (.func (.func f) #[] ws)
 | clb (f:Nat) (cs:List AV) (ws:Array Value) (hn:ws.size=cs.length) (hR:∀ i y,cs[i]?=some y->Rep I L y (ws.getD i undef)):Rep I L (.clb f cs) (.func (.func f) ws #[])
 | agg (cs:List AV) (ws:Array Value) (hn:ws.size=cs.length) (hs:∀ i,i<ws.size->scal (ws.getD i undef)=true) (hR:∀ i y,cs[i]?=some y->Rep I L y (ws.getD i undef)) :
    Rep I L (.agg cs) (.agg ws)
 | tup (cs:List AV) (ws:Array Value) (hn:ws.size=cs.length) (hR:∀ i y,cs[i]?=some y->Rep I L y (ws.getD i undef)):Rep I L (.tup cs) (.tuple ws)
structure Ext (I:Imm) (L:List Lay) (I':Imm) (L':List Lay):Prop where
 imm:Grows I I'
 lay:∀(id:Nat) (l:Lay),L[id]?=some l->∃ l':Lay,L'[id]?=some l'/\l'.k=l.k/\l.tot<=l'.tot/\(l'.tot=l.tot->l' = l)
theorem Ext.refl (I:Imm) (L:List Lay):Ext I L I L:=⟨.refl I,fun _ l h=>⟨l,h,rfl,Nat.le_refl _,fun _=>rfl⟩⟩
theorem Ext.trans {I L I' L' I'' L''} (h:Ext I L I' L') (h':Ext I' L' I'' L''):Ext I L I'' L'':=
 ⟨h.imm.trans h'.imm,fun id l e=>by
   obtain⟨l1,e1,k1,t1,s1⟩:=h.lay id l e;obtain⟨l2,e2,k2,t2,s2⟩:=h'.lay id l1 e1;refine⟨l2,e2,k2.trans k1,Nat.le_trans t1 t2,fun e3=>?_⟩;have e4:l1.tot=l.tot:=by omega
   rw[<- s1 e4];exact s2 (by omega)⟩
theorem Rep.monoS {I L I' L'} (hxi:∀ b o v,scal v=true->I b o=some v->I' b o=some v)
  (hxl:∀(id:Nat) (l:Lay),L[id]?=some l->∃ l':Lay,L'[id]?=some l'/\l'.k=l.k/\l.tot<=l'.tot/\(l'.tot=l.tot->l' = l)) {a:AV}{v:Value} (h:Rep I L a v):Rep I' L' a v:=by
 induction h with
 | top v=>exact .top v
 | int k n=>exact .int k n
 | bool b=>exact .bool b
 | str s=>exact .str s
 | nilp=>exact .nilp
 | nilf=>exact .nilf
 | nili=>exact .nili
 | nilm=>exact .nilm
 | nilsl t=>exact .nilsl t
 | sl t xs b o c k f hc ht hk hI _ ih=>exact .sl t xs b o c k f hc ht hk (fun i j x y h1 h2=>⟨hxi _ _ _ (hI i j x y h1 h2).2 (hI i j x y h1 h2).1,(hI i j x y h1 h2).2⟩) ih
 | pt cs b o f hI _ ih=>exact .pt cs b o f (fun j y h1=>⟨hxi _ _ _ (hI j y h1).2 (hI j y h1).1,(hI j y h1).2⟩) ih
 | rf id tot i j l b o hL ht hv=>
   obtain⟨l',e,k',t',s'⟩:=hxl id l hL;refine .rf id tot i j l' b o e (by omega) fun e2=>?_;have e3:l'.tot=l.tot:=by omega
   rw[s' e3];exact hv (by omega)
 | ms id k tot off len l b o c hL ht hk hl hc hv=>
   obtain⟨l',e,k',t',s'⟩:=hxl id l hL;refine .ms id k tot off len l' b o c e (by omega) (by omega) hl hc fun e2=>?_;have e3:l'.tot=l.tot:=by omega
   rw[s' e3];exact hv (by omega)
 | mpr id l b hL hv=>
   obtain⟨l',e,k',t',s'⟩:=hxl id l hL;refine .mpr id l' b e fun e2=>?_;have e3:l'.tot=l.tot:=by omega
   rw[s' e3];exact hv (by omega)
 | yld id l q hL hv=>
   obtain⟨l',e,k',t',s'⟩:=hxl id l hL;refine .yld id l' q e fun e2=>?_;have e3:l'.tot=l.tot:=by omega
   rw[s' e3];exact hv (by omega)
 | psn l c=>exact .psn l c
 | pss b o l c=>exact .pss b o l c
 | msn id k l hL hk=>
   obtain⟨l',e,k',t',s'⟩:=hxl id l hL;exact .msn id k l' e (by omega)
 | clo f cs ws hn _ ih=>exact .clo f cs ws hn ih
 | clb f cs ws hn _ ih=>exact .clb f cs ws hn ih
 | agg cs ws hn hs _ ih=>exact .agg cs ws hn hs ih
 | tup cs ws hn _ ih=>exact .tup cs ws hn ih
theorem Rep.mono {I L I' L'} (hx:Ext I L I' L') {a:AV}{v:Value} (h:Rep I L a v):Rep I' L' a v:=h.monoS (fun b o v _=>hx.imm.c b o v) hx.lay
theorem Rep.scal {I L}{a:AV}{v:Value} (h:Rep I L a v) (ha:a.ok=true):scal v=true:=by
 cases h<;>first|rfl|simp[AV.ok]at ha
theorem HL {v:Value} (h:scal v=true):v.cells = #[v]:=by
 cases v<;>first|rfl|simp[Ev.scal,Value.oneCell']at h
theorem Rep.cells {I L}{a:AV}{v:Value} (h:Rep I L a v) (ha:a≠.top) :
  v.cells.size=a.cells.length/\∀ i y,a.cells[i]?=some y->Rep I L y (v.cells.getD i undef):=by
 have one:∀(a:AV) (v:Value),Rep I L a v->a.cells=[a]->v.cells = #[v] ->
   v.cells.size=a.cells.length/\∀ i y,a.cells[i]?=some y->Rep I L y (v.cells.getD i undef):=by
  intro a v h e1 e2;rw[e1,e2];refine⟨rfl,fun i y hi=>?_⟩
  match i,hi with
  | 0,hi=>simp at hi;subst hi;simpa using h
  | i+1,hi=>simp at hi
 cases h with
 | top v=>exact absurd rfl ha
 | agg cs ws hn hs hR=>exact⟨hn,hR⟩
 | int k n=>exact one _ _ (.int k n) rfl rfl
 | bool b=>exact one _ _ (.bool b) rfl rfl
 | str s=>exact one _ _ (.str s) rfl rfl
 | nilp=>exact one _ _ .nilp rfl rfl
 | nilf=>exact one _ _ .nilf rfl rfl
 | nili=>exact one _ _ .nili rfl rfl
 | nilm=>exact one _ _ .nilm rfl rfl
 | nilsl t=>exact one _ _ (.nilsl t) rfl rfl
 | sl t xs b o c k f hc ht hk hI hR=>exact one _ _ (.sl t xs b o c k f hc ht hk hI hR) rfl rfl
 | pt cs b o f hI hR=>exact one _ _ (.pt cs b o f hI hR) rfl rfl
 | rf id tot i j l b o hL ht hv=>exact one _ _ (.rf id tot i j l b o hL ht hv) rfl rfl
 | ms id k tot off len l b o c hL ht hk hl hc hv=>exact one _ _ (.ms id k tot off len l b o c hL ht hk hl hc hv) rfl rfl
 | msn id k l hL hk=>exact one _ _ (.msn id k l hL hk) rfl rfl
 | mpr id l b hL hv=>exact one _ _ (.mpr id l b hL hv) rfl rfl
 | yld id l b hL hv=>exact one _ _ (.yld id l b hL hv) rfl rfl
 | psn l c=>exact one _ _ (.psn l c) rfl rfl
 | pss b o l c=>exact one _ _ (.pss b o l c) rfl rfl
 | clo f cs ws hn hR=>exact one _ _ (.clo f cs ws hn hR) rfl rfl
 | clb f cs ws hn hR=>exact one _ _ (.clb f cs ws hn hR) rfl rfl
 | tup cs ws hn hR=>exact one _ _ (.tup cs ws hn hR) rfl rfl
theorem Rep.cells_scal {I L}{a:AV}{v:Value} (h:Rep I L a v) (ha:a.cells.all AV.ok=true) :
  v.cells.size=a.cells.length/\∀ i y,a.cells[i]?=some y->Rep I L y (v.cells.getD i undef)/\Ev.scal (v.cells.getD i undef)=true:=by
 have hne:a≠.top:=by rintro rfl;simp[AV.cells,AV.ok]at ha
 obtain⟨h1,h2⟩:=h.cells hne;refine⟨h1,fun i y hi=>⟨h2 i y hi,(h2 i y hi).scal ?_⟩⟩;exact List.all_eq_true.1 ha y (List.mem_of_getElem? hi)
structure BlkOk (B0:Nat) (I:Imm) (L:List Lay) (w:World) (k:Nat) (els:List AV) (z:Nat) (l:Lay):Prop where
 hk:l.k=k
 ht:l.tot=els.length
 hsh:l.sh<=els.length
 hz:z<=els.length
 hB:l.n≠0->B0<=l.b
 wid:∀ x∈els,x.cells.length=k
 fit:l.o+(els.length-l.sh)*k<=l.n
 blk:l.n≠0->∃ cs T fr,w.heap[l.b]?=some (.cells cs T fr)/\cs.size=l.n /\
  (∀ i j x y,els[i]?=some x->x.cells[j]?=some y->l.sh<=i->∃ v,cs[l.o+(i-l.sh)*k+j]?=some v/\scal v=true/\Rep I L y v) /\
  (∀ c,l.o<=c->c<l.o+(z-l.sh)*k->I l.b c=cs[c]?)/\fr.2<=l.o+(z-l.sh)*k
 free:l.n≠0->∀ c,l.o+(z-l.sh)*k<=c->I l.b c=none
structure MapOk (B0:Nat) (I:Imm) (L:List Lay) (w:World) (q:KK) (es:List (AV×AV)) (l:Lay):Prop where
 ht:l.tot=0
 hn:l.n≠0
 hB:B0<=l.b
 obj:∃(ents:Array MapEntry) (clock:Nat),w.heap[l.b]?=some (.map ents clock)/\ents.size=es.length /\
  ∀(i:Nat) (k v:AV),es[i]?=some (k,v)->keyOk q k=true/\∃ e:MapEntry,ents[i]?=some e/\Rep I L k e.key/\Rep I L v e.val
 free:∀ c,I l.b c=none
def TmOk (I:Imm) (L:List Lay) (n:Nat) (t:Tm) (vs:Array Value):Prop:=
 vs.size=n/\t.Pairwise (fun a b=>b.1<a.1)/\∀ q∈t,q.1<n/\Rep I L q.2 (vs.getD q.1 undef)
def jumpOf:EX->Option Code
 | .norm=>none
 | .exit id=>some (.exit id)
 | .ret=>some .ret
def LSt (st:LS) (r:Loop):Prop:=
 match st with
 | .ready=>r.state=.ready/\r.pending=none
 | .busy=>r.state=.busy
 | .done e=>r.state=.done/\r.pending=jumpOf e/\e≠.norm
 | .over=>True
structure LpOk (B0:Nat) (I:Imm) (L:List Lay) (w:World) (st:LS) (n:Nat) (t:Tm) (ps:List Nat) (c:Code×Code) (l:Lay):Prop where
 ht:l.tot=0
 hn:l.n≠0
 hB:B0<=l.b
 obj:∃ r:Loop,w.heap[l.b]?=some (.loop r)/\LSt st r/\r.params.toList=ps/\r.assign=c.1/\r.body=c.2/\(st=.over∨TmOk I L n t r.tmps)
 nil:st=.over->t=[]
 free:∀ c,I l.b c=none
structure TyOk (T:TypeId) (w:World) (l:Lay):Prop where
 n:l.n≠0
 o:l.o=0
 sh:l.sh=0
 ty:∃ cs fr,w.heap[l.b]?=some (.cells cs T fr)
theorem TyOk.same {T:TypeId}{w w':World}{l:Lay} (h:TyOk T w l) (e:w'.heap[l.b]?=w.heap[l.b]?):TyOk T w' l:=⟨h.n,h.o,h.sh,by rw[e];exact h.ty⟩
def MbOk (B0:Nat) (I:Imm) (L:List Lay) (w:World):MB->Lay->Prop
 | .row k els z,l=>BlkOk B0 I L w k els z l
 | .tr T k els z,l=>BlkOk B0 I L w k els z l/\TyOk T w l
 | .mp q es,l=>MapOk B0 I L w q es l
 | .lp st _ n t ps c,l=>LpOk B0 I L w st n t ps c l
structure Holds (I:Imm) (w:World):Prop where
 c:∀ b o v,I b o=some v->w.cell? ⟨b,o,none⟩=some v
 g:∀ D,I.g D=true->w.heap[D]?=some (.deferred (some []))
theorem Holds.lt {I:Imm}{w:World} (h:Holds I w) {b o:Nat}{v:Value} (hb:I b o=some v):b<w.heap.size:=World.block_lt_of_cell? (w:=w) (a:=⟨b,o,none⟩) (h.c b o v hb)
theorem Holds.ltg {I:Imm}{w:World} (h:Holds I w) {D:Nat} (hb:I.g D=true):D<w.heap.size:=(Array.getElem?_eq_some_iff.1 (h.g D hb)).1
theorem Bj {w w':World}{b o:Nat}{v:Value} (h:w.cell? ⟨b,o,none⟩=some v) (e:w'.heap[b]?=w.heap[b]?):w'.cell? ⟨b,o,none⟩=some v:=by
 unfold World.cell? at h |-;rw[e];exact h
theorem Holds.same {I:Imm}{w w':World} (h:Holds I w) (e:∀ b,b<w.heap.size->w'.heap[b]?=w.heap[b]?):Holds I w':=
 ⟨fun b o v hb=>Bj (h.c b o v hb) (e b (h.lt hb)),fun D hD=>by rw[e D (h.ltg hD)];exact h.g D hD⟩
structure Base where
 w:World
 I:Imm
 fx:Bool
structure BelowD (B:Nat) (w w':World):Prop extends Below B w w' where
 drawn:w.drawn<=w'.drawn
theorem BelowD.refl (B:Nat) (w:World):BelowD B w w:=⟨.refl B w,Nat.le_refl _⟩
theorem BelowD.trans {B:Nat}{a b c:World} (h:BelowD B a b) (k:BelowD B b c):BelowD B a c:=⟨h.toBelow.trans k.toBelow,Nat.le_trans h.drawn k.drawn⟩
theorem BelowD.step {B:Nat}{a b c:World} (h:BelowD B a b) (k:Below B b c) (hd:b.drawn<=c.drawn:=by exact Nat.le_refl _):BelowD B a c:=⟨h.toBelow.trans k,Nat.le_trans h.drawn hd⟩
theorem BelowD.mono {B B':Nat}{a b:World} (h:BelowD B a b) (hB:B'<=B):BelowD B' a b:=⟨h.toBelow.mono hB,h.drawn⟩
theorem BelowD.alloc {B:Nat}{a b:World} (h:BelowD B a b) (hB:B<=b.heap.size) (o:Obj):BelowD B a (b.alloc o):=⟨h.toBelow.alloc hB o,h.drawn⟩
theorem BelowD.drew {B:Nat}{a b:World} (h:BelowD B a b):BelowD B a b.drew:=⟨h.toBelow.drew,Nat.le_succ_of_le h.drawn⟩
structure Inv (B0:Nat) (w0:Base) (I:Imm) (H:List MB) (L:List Lay) (w:World):Prop where
 below:BelowD B0 w0.w w
 base:B0<=w.heap.size
 len:L.length=H.length
 blk:∀(id:Nat) (m:MB) (l:Lay),H[id]?=some m->L[id]?=some l->MbOk B0 I L w m l
 inj:∀(i j:Nat) (l l':Lay),L[i]?=some l->L[j]?=some l'->l.n≠0->l'.n≠0->l.b=l'.b->i=j
 imm:Holds I w
 old:∀ b o,b<B0->I b o=w0.I b o
theorem Inv.lay {B0 w0 I H L w} (h:Inv B0 w0 I H L w) {id:Nat}{m:MB} (hm:H[id]?=some m):∃ l,L[id]?=some l:=by
 have:id<L.length:=by
  rw[h.len];exact(List.getElem?_eq_some_iff.1 hm).1
 exact⟨_,List.getElem?_eq_getElem this⟩
theorem Inv.fx {B0 w0 I H L w} (h:Inv B0 w0 I H L w) (b:Bool):Inv B0 ⟨w0.w,w0.I,b⟩ I H L w:=⟨h.below,h.base,h.len,h.blk,h.inj,h.imm,h.old⟩
theorem Inv.unfx {B0 w0 I H L w b} (h:Inv B0 ⟨w0.w,w0.I,b⟩ I H L w):Inv B0 w0 I H L w:=⟨h.below,h.base,h.len,h.blk,h.inj,h.imm,h.old⟩
theorem Inv.cell {B0 w0 I H L w} (h:Inv B0 w0 I H L w) {b o:Nat}{v:Value} (hi:I b o=some v):w.cell? ⟨b,o,none⟩=some v:=h.imm.c b o v hi
theorem BR {H:List MB} {id k els z} (h:getRow H id=some (k,els,z)):∃ t,H[id]?=some (MB.mk t k els z):=by
 unfold getRow at h;split at h
 ·rename_i hm;simp at h;obtain⟨rfl,rfl,rfl⟩:=h;exact⟨none,hm⟩
 ·rename_i T _ _ _ hm;simp at h;obtain⟨rfl,rfl,rfl⟩:=h;exact⟨some T,hm⟩
 ·simp at h
theorem Fy {P:Program}{H:List MB}{id off:Nat}{e T:TypeId}{t:Option TypeId} {k els z} (h:keepTag P H id off e=some T) (hm:H[id]?=some (MB.mk t k els z)):T=e/\off=0/\t=some T:=by
 unfold keepTag at h;rw[hm]at h;split at h
 ·rename_i hc;cases t with
  | none=>cases h
  | some T'=>
    simp only[MB.mk]at h;split at h
    ·rename_i he;cases h;exact⟨rfl,hc.2,by rw[he]⟩
    ·cases h
 ·cases h
theorem Ga {P:Program}{e T:TypeId} (h:newTag P e=some T):T=e:=by
 unfold newTag at h;split at h
 ·cases h;rfl
 ·cases h
theorem MbOk.blk {B0 I L w t k els z l} (h:MbOk B0 I L w (MB.mk t k els z) l):BlkOk B0 I L w k els z l:=by
 cases t with
 | none=>exact h
 | some T=>exact And.left h
theorem MbOk.mk_of {B0 I L w t k els z l} (h:BlkOk B0 I L w k els z l) (ht:∀ T,t=some T->TyOk T w l):MbOk B0 I L w (MB.mk t k els z) l:=by
 cases t with
 | none=>exact h
 | some T=>exact⟨h,ht T rfl⟩
theorem Inv.row {B0 w0 I H L w} (h:Inv B0 w0 I H L w) {id k els z} (hr:getRow H id=some (k,els,z)):∃ l,L[id]?=some l/\BlkOk B0 I L w k els z l:=by
 obtain⟨t,hm⟩:=BR hr;obtain⟨l,hl⟩:=h.lay hm;exact⟨l,hl,(h.blk id _ l hm hl).blk⟩
theorem World.cell_of_heap {w:World}{b:Nat}{cs:Array Value}{T:TypeId}{fr:Nat×Nat} (h:w.heap[b]?=some (.cells cs T fr)) (o:Nat):w.cell? ⟨b,o,none⟩=cs[o]?:=by
 simp[World.cell?,h]
theorem BlkOk.pos {B0 I L w k els z l} (h:BlkOk B0 I L w k els z l) {i j:Nat}{x y:AV} (hx:els[i]?=some x) (hy:x.cells[j]?=some y) (hs:l.sh<=i):l.n≠0:=by
 have h1:i<els.length:=(List.getElem?_eq_some_iff.1 hx).1;have h2:j<k:=by rw[<- h.wid x (List.mem_of_getElem? hx)];exact(List.getElem?_eq_some_iff.1 hy).1
 have h3:=h.fit;have h4:1*k<=(els.length-l.sh)*k:=Nat.mul_le_mul_right k (by omega);omega
theorem BlkOk.cell {B0 I L w k els z l} (h:BlkOk B0 I L w k els z l) {i j:Nat}{x y:AV} (hx:els[i]?=some x) (hy:x.cells[j]?=some y) (hs:l.sh<=i) :
  ∃ v,w.cell? ⟨l.b,l.o+(i-l.sh)*k+j,none⟩=some v/\scal v=true/\Rep I L y v:=by
 obtain⟨cs,T,fr,h1,h2,h3,h4,f9h4⟩:=h.blk (h.pos hx hy hs);obtain⟨v,e1,e2,e3⟩:=h3 i j x y hx hy hs;exact⟨v,by rw[World.cell_of_heap h1];exact e1,e2,e3⟩
theorem C3 {B0 w0 I H L w} (hi:Inv B0 w0 I H L w) {a:AV}{v:Value} (hr:Rep I L a v) {cs:List AV} (h:cellsAt H a=some cs) :
  ∃ b o,v=.pointer (some ⟨b,o,none⟩)/\∀ j y,cs[j]?=some y->∃ u,w.cell? ⟨b,o+j,none⟩=some u/\scal u=true/\Rep I L y u:=by
 unfold cellsAt at h;split at h
 ·rename_i cs';simp at h;subst h;cases hr with
  | pt _ b o f hI hR=>exact⟨b,o,rfl,fun j y hj=>⟨f j,hi.cell (hI j y hj).1,(hI j y hj).2,hR j y hj⟩⟩
 ·rename_i id tot i j;split at h
  ·rename_i k els z hrow;split at h
   ·rename_i hlen;split at h
    ·rename_i x hx;simp at h;subst h;cases hr with
     | rf _ _ _ _ l b o hL ht hv=>
       obtain⟨l',hl',hb⟩:=hi.row hrow;have hll:l' = l:=by rw[hL]at hl';exact(Option.some.inj hl').symm
       subst hll;obtain⟨h1,h2,h3⟩:=hv (by rw[hb.ht];exact hlen.symm);refine⟨b,o,rfl,fun j' y hj=>?_⟩;rw[List.getElem?_drop]at hj;obtain⟨u,e1,e2,e3⟩:=hb.cell hx hj h1;refine⟨u,?_,e2,e3⟩;rw[h2,h3,hb.hk];rw[<- e1];congr 2;omega
    ·simp at h
   ·simp at h
  ·simp at h
 ·simp at h
end Go.Ev
